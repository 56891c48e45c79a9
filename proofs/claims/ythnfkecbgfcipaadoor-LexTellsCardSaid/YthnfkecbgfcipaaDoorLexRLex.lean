/- The walk of muntinref12.Lex. -/
import Derived.Test.YthnfkecbgfcipaaDoorLexAppOne
import Derived.Deep.CutBlock
import Derived.Deep.Cut
import Derived.Test.YthnfkecbgfcipaaDoorLexRAt
import Derived.Test.YthnfkecbgfcipaaDoorLexRWordAll
namespace Go.Proofs.YthnfkecbgfcipaaDoor
open Go.RowKit
set_option linter.unusedVariables false
set_option linter.unusedSimpArgs false
/-- What the outer loop keeps in memory. -/
structure RMem (w : World) (v : Value) (ts : List Tok) (W : World) : Prop where
  bel : Below w.heap.size w W
  pos : W.heap[w.heap.size]? = some (.cells #[.int .i64 0, .int .i64 0] 25 (0, 0))
  row : W.ownsRow (w.heap.size + 1) 41 5 v ts.length (toksC ts)
  lt : w.heap.size + 1 ≤ W.heap.size
theorem RMem.go {w : World} {v v' : Value} {ts ts' : List Tok} {W W' : World} (h : RMem w v ts W) (hb : Below (w.heap.size + 1) W W') (hr : W'.ownsRow (w.heap.size + 1) 41 5 v' ts'.length (toksC ts')) : RMem w v' ts' W' :=
  ⟨h.bel.trans (hb.mono (by omega)), (hb.block _ (by omega)).trans h.pos, hr, Nat.le_trans h.lt hb.size⟩
def RState (l : List UInt8) (w : World) (v ln bg sm no at' : Value) (W : World) : Prop :=
  ∃ ts, RMem w v ts W ∧ ts.length ≤ l.length + 1 ∧
    ((∃ (k n b : Nat) (s o : Bool), RAt l k n b s o ts ∧ ln = .int .i64 (n : Int) ∧ bg = .int .i64 (b : Int) ∧ sm = .bool s ∧ no = .bool o ∧ at' = .int .i64 (k : Int)) ∨
     (lexS l = .ok ts ∧ at' = .int .i64 ((l.length + 1 : Nat) : Int) ∧ (∃ n b : Int, ln = .int .i64 n ∧ bg = .int .i64 b) ∧ sm = .bool false ∧ no = .bool false))
def RLexOk (l : List UInt8) (w : World) (e : Ending) (w' : World) : Prop :=
  (match lexS l with
    | .ok ts => ∃ v, e = .returned (.tuple #[v, .agg #[.int .i64 0, .int .i64 0], .int .i64 0]) ∧ TokIn w' v ts
    | .error p => e = .returned (.tuple #[.slice none 0 0, .agg #[.int .i64 p.1, .int .i64 p.2], .int .i64 120])) ∧ Below w.heap.size w w'
/-- A slot, a struct that lies in a cell, and a slot, as results. -/
theorem lex_slot_row_slot {P : Program} {fn : Func} {p q r : Tmp} {ty : TypeId} (h : fn.results = #[.tmp p, .cell q ty, .tmp r]) (tmps : Array Value) (w : World) (g : Nat) (t : TypeId) (cs : Array Value) (fr : Nat × Nat) (d : TypeDesc) (u v : Value)
    (hp : tmps.getD p undef = u) (hq : tmps.getD q undef = .pointer (some ⟨g, 0, none⟩)) (hr : tmps.getD r undef = v) (hg : w.heap[g]? = some (.cells cs t fr))
    (hu : P.underlying ty = some d) (hd : (match d with | .struct _ | .array _ _ => true | _ => false) = true) (hi : (P.info? ty).map (·.size) = some cs.size) :
    (results fn tmps).run P w = .ok (.tuple #[u, .agg cs, v]) w := by
  have hp' : tmps[p]?.getD undef = u := by simpa using hp
  have hq' : tmps[q]?.getD undef = .pointer (some ⟨g, 0, none⟩) := by simpa using hq
  have hr' : tmps[r]?.getD undef = v := by simpa using hr
  simp [results, h, hp', hq', hr', asAddr, run_loadVar_row w g t ty cs fr d hg hu hd hi]
theorem RMem.put {w : World} {v : Value} {ts : List Tok} {W : World} (h : RMem w v ts W) (cs : Array Value) : (W.setRow w.heap.size cs).heap[w.heap.size]? = some (.cells cs 25 (0, 0)) ∧ Below w.heap.size w (W.setRow w.heap.size cs) ∧ (W.setRow w.heap.size cs).ownsRow (w.heap.size + 1) 41 5 v ts.length (toksC ts) := by
  refine ⟨?_, below_setRow h.bel (Nat.le_refl _) _, h.row.1, h.row.2.imp id fun ⟨g, cap, cur, e, h1, h2, h3⟩ => ⟨g, cap, cur, e, h1, by simp only [World.setRow, Array.getElem?_modify]; rw [if_neg (by omega)]; exact h2, h3⟩⟩
  simp only [World.setRow, Array.getElem?_modify, h.pos]
  simp
/-- Where a word ends. -/
theorem word_end {l : List UInt8} {k : Nat} {c : UInt8} (hc : l[k]? = some c) (hi : inword c = true) : ∃ E, k < E ∧ E ≤ l.length ∧ (∀ j d, k ≤ j → j < E → l[j]? = some d → inword d = true) ∧
    (E = l.length ∨ (∃ d, l[E]? = some d ∧ d.toNat = 10) ∨ (∃ d, l[E]? = some d ∧ d.toNat ≠ 10 ∧ nonw d = false)) ∧ (l.drop k).takeWhile inword = (l.drop k).take (E - k) := by
  obtain ⟨h1, h2, h3, h4⟩ := tw_len (p := inword) (l.drop k)
  have hlt := (List.getElem?_eq_some_iff.1 hc).1
  have hpos : 0 < ((l.drop k).takeWhile inword).length := by
    rw [drop_at hc]; simp [List.takeWhile, hi]
  generalize hn : ((l.drop k).takeWhile inword).length = n at h1 h2 h3 h4 hpos
  rw [List.length_drop] at h2
  refine ⟨k + n, by omega, by omega, fun j d hj1 hj2 hd => h1 (j - k) d (by omega) (by rw [List.getElem?_drop, show k + (j - k) = j by omega]; exact hd), ?_, by rw [h4, show k + n - k = n by omega]⟩
  rcases Nat.lt_or_ge (k + n) l.length with hl | hl
  · obtain ⟨d, hd⟩ : ∃ d, l[k + n]? = some d := ⟨_, List.getElem?_eq_getElem hl⟩
    have := h3 d (by rw [List.getElem?_drop]; exact hd)
    by_cases h10 : d.toNat = 10
    · exact .inr (.inl ⟨d, hd, h10⟩)
    · refine .inr (.inr ⟨d, hd, h10, ?_⟩)
      simpa [inword, h10] using this
  · exact .inl (by omega)
theorem ext_word (l : List UInt8) (k e : Nat) : (⟨l.toArray⟩ : ByteArray).extract k e = ⟨((l.drop k).take (e - k)).toArray⟩ := by
  apply ByteArray.ext
  simp [ByteArray.data_extract]
theorem word_calls {l : List UInt8} {k E : Nat} {c : UInt8} (hl : l.length ≤ 65536) (hc : l[k]? = some c) (hi : inword c = true) (hw : (l.drop k).takeWhile inword = (l.drop k).take (E - k)) (w : World) :
    Calls Tryd.prog 21 #[.string ((⟨l.toArray⟩ : ByteArray).extract k E)] w (RWordOk ((l.drop k).takeWhile inword) w) := by
  rw [ext_word, ← hw]
  have e : (l.drop k).takeWhile inword = c :: (l.drop (k + 1)).takeWhile inword := by
    rw [drop_at hc]; simp [List.takeWhile, hi]
  have hb : ((l.drop (k + 1)).takeWhile inword).length + 1 ≤ 70000 := by
    have h1 := (tw_len (p := inword) (l.drop (k + 1))).2.1
    rw [List.length_drop] at h1
    omega
  rw [e]
  exact rword_any c _ hb w
theorem word_some {l : List UInt8} {k E : Nat} {c : UInt8} (hl : l.length ≤ 65536) (hc : l[k]? = some c) (hi : inword c = true) (hw : (l.drop k).takeWhile inword = (l.drop k).take (E - k)) {xk : Nat} {xt : List UInt8} {xn : Nat} (ht : tokB ((l.drop k).takeWhile inword) = some (xk, xt, xn)) (w : World) :
    Calls Tryd.prog 21 #[.string ((⟨l.toArray⟩ : ByteArray).extract k E)] w fun e w' => e = .returned (.tuple #[.agg #[.int .u8 xk, .string ⟨xt.toArray⟩, .int .u32 xn, .int .i64 0, .int .i64 0], .bool true]) ∧ Below w.heap.size w w' := by
  refine (word_calls hl hc hi hw w).mono ?_
  rintro e w' ⟨h1, h2⟩
  rw [ht] at h1
  exact ⟨h1, h2⟩
theorem word_none {l : List UInt8} {k E : Nat} {c : UInt8} (hl : l.length ≤ 65536) (hc : l[k]? = some c) (hi : inword c = true) (hw : (l.drop k).takeWhile inword = (l.drop k).take (E - k)) (ht : tokB ((l.drop k).takeWhile inword) = none) (w : World) :
    Calls Tryd.prog 21 #[.string ((⟨l.toArray⟩ : ByteArray).extract k E)] w fun e w' => e = .returned (.tuple #[.agg #[.int .u8 0, .string ⟨((l.drop k).takeWhile inword).toArray⟩, .int .u32 0, .int .i64 0, .int .i64 0], .bool false]) ∧ Below w.heap.size w w' := by
  refine (word_calls hl hc hi hw w).mono ?_
  rintro e w' ⟨h1, h2⟩
  rw [ht] at h1
  exact ⟨h1, h2⟩
theorem RMem.pos2 {w : World} {v : Value} {ts : List Tok} {W : World} (h : RMem w v ts W) (x y : Int) : (((W.setCell ⟨w.heap.size, 0, none⟩ (.int .i64 x)).setCell ⟨w.heap.size, 1, none⟩ (.int .i64 y)).drew).heap[w.heap.size]? = some (.cells #[.int .i64 x, .int .i64 y] 25 (0, 0)) ∧
    Below w.heap.size w (((W.setCell ⟨w.heap.size, 0, none⟩ (.int .i64 x)).setCell ⟨w.heap.size, 1, none⟩ (.int .i64 y)).drew) := by
  refine ⟨?_, ((h.bel.setCell (p := ⟨w.heap.size, 0, none⟩) (Nat.le_refl _) _).setCell (p := ⟨w.heap.size, 1, none⟩) (Nat.le_refl _) _).drew⟩
  simp only [World.setCell, World.drew, Array.getElem?_modify, h.pos]
  simp
theorem RMem.below {w : World} {v : Value} {ts : List Tok} {W W' : World} (h : RMem w v ts W) (hb : Below W.heap.size W W') : RMem w v ts W' := by
  have hlt := h.lt
  refine ⟨h.bel.trans (hb.mono h.bel.size), (hb.block _ (by omega)).trans h.pos, ⟨h.row.1, h.row.2.imp id fun ⟨g, cap, cur, e, h1, h2, h3⟩ => ⟨g, cap, cur, e, h1, (hb.block _ (Array.getElem?_eq_some_iff.1 h2).1).trans h2, h3⟩⟩, Nat.le_trans h.lt hb.size⟩
set_option maxRecDepth 100000 in
set_option maxHeartbeats 8000000 in
theorem rlex_any (l : List UInt8) (hl : l.length ≤ 65536) (w : World) : Calls Tryd.prog 8 #[.string ⟨l.toArray⟩] w (RLexOk l w) := by
  have d0 : decide ((65536 : Int) < l.length) = false := decide_eq_false (by omega)
  have d0' : decide (65536 < l.length) = false := decide_eq_false (by omega)
  go_enter Tryd.func8, Tryd.ntmps8
  go_wp2_with fail
  go_loopw [5, 6, 7, 8, 9, 10] (fun v ln bg sm no at' wr => RState l w v ln bg sm no at' wr) (fun _ _ _ _ _ i _ => l.length + 1 - (intOf i).toNat)
  case atStart =>
    refine ⟨[], ⟨(Below.refl _ _).alloc (Nat.le_refl _) _, World.alloc_heap_new _ _, ⟨rfl, .inl ⟨rfl, rfl⟩⟩, by simp⟩, by simp, .inl ⟨0, 1, 0, false, false, RAt.start l, rfl, rfl, rfl, rfl, rfl⟩⟩
  case round =>
    obtain ⟨ts, hm, htl, ⟨k, n, b, s, o, hr, rfl, rfl, rfl, rfl, rfl⟩ | ⟨hx, rfl, ⟨n, b, rfl, rfl⟩, rfl, rfl⟩⟩ := hrel
    case inr =>
      have HX := shid hx
      have HM := shid hm
      have d1 : decide ((l.length : Int) + 1 ≤ l.length) = false := decide_eq_false (by omega)
      clear hx hm
      have HP := shid (HM.out.put #[.int .i64 0, .int .i64 0])
      go_wp2_with (refine wpList_store_row rfl 25 (.tmp 3) (.tmp 121) rfl w.heap.size #[.int .i64 0, .int .i64 0] rfl rfl 25 _ HM.out.pos (by kernel_rfl) (by kernel_rfl) (by kernel_rfl) ?_)
      change bodyPost Tryd.prog Tryd.f8 (RLexOk l w) .ret _ _
      refine bodyPost_ret (lex_slot_row_slot (P := Tryd.prog) Tryd.results8 _ _ w.heap.size _ _ (0, 0) _ _ _ rfl rfl rfl HP.out.1 Tryd.underlying25 rfl (by kernel_rfl)) rfl ⟨?_, HP.out.2.1⟩
      rw [HX.out]
      exact ⟨_, rfl, tok_in HP.out.2.2 (by omega)⟩
    have HA := shid hr
    have HM := shid hm
    have hk := hr.le
    have hbk := hr.bk
    have hnk := hr.lk
    have htk := hr.tk
    have q1 : (k : Int) ≤ l.length := by omega
    have q2 : decide ((k : Int) ≤ l.length) = true := decide_eq_true q1
    obtain ⟨v', W', hrun, hrow, hbl⟩ := app_one (W := wr) hm.row ⟨6, [], 0, n, k - b + 1⟩ (by omega) hm.lt
    have hcol : ((k - b + 1 : Nat) : Int) = (k : Int) - b + 1 := by omega
    simp only [hcol] at hrun
    have HR := shid hrun
    have HW := shid (hm.go hbl hrow)
    clear hr hm hrun hrow hbl hcol
    by_cases hend : k = l.length
    case pos =>
      subst hend
      have HE := shid HA.out.fin
      cases s with
      | true =>
        go_wp2_with (at_builtin; refine wpList_app_eq Tryd.prog rfl _ _ 23 rfl _ _ _ _ rfl rfl HR.out ?_)
        go_roundw
        case rel => exact ⟨_, HW.out, by simp; omega, .inr ⟨HE.out, by go_num, ⟨_, _, rfl, rfl⟩, rfl, rfl⟩⟩
        case measure => simp [intOf] <;> omega
      | false =>
        go_wp2_with fail
        go_roundw
        case rel => exact ⟨_, HM.out, by omega, .inr ⟨by have h := HE.out; rw [show endT false n (l.length - b + 1) = [] from rfl, List.append_nil] at h; exact h, by go_num, ⟨_, _, rfl, rfl⟩, rfl, rfl⟩⟩
        case measure => simp [intOf] <;> omega
    have hlt : k < l.length := by omega
    obtain ⟨c, hc⟩ : ∃ c, l[k]? = some c := ⟨_, List.getElem?_eq_getElem hlt⟩
    have hsz : k < (⟨l.toArray⟩ : ByteArray).size := by simpa [ByteArray.size] using hlt
    have hxk : (⟨l.toArray⟩ : ByteArray)[k]'hsz = c := (List.getElem?_eq_some_iff.1 hc).2
    have q3 : (k : Int) < l.length := by omega
    have q4 : ((k : Int) == l.length) = false := by rw [beq_eq_false_iff_ne]; omega
    have q5 : decide ((k : Int) = l.length) = false := decide_eq_false (by omega)
    have HC := shid hc
    clear hc hend
    by_cases h10 : c.toNat = 10
    case pos =>
      have e10 : ((c.toNat : Int) == 10) = true := by rw [beq_iff_eq]; omega
      have HL := shid (HA.out.line HC.out h10)
      cases s with
      | true =>
        go_wp2_with (at_builtin; refine wpList_app_eq Tryd.prog rfl _ _ 23 rfl _ _ _ _ rfl rfl HR.out ?_)
        go_roundw
        case rel => exact ⟨_, HW.out, by simp; omega, .inl ⟨k + 1, n + 1, k + 1, false, false, HL.out, by go_num, by go_num, rfl, rfl, by go_num⟩⟩
        case measure => simp [intOf] <;> omega
      | false =>
        go_wp2_with fail
        go_roundw
        case rel => exact ⟨_, HM.out, by omega, .inl ⟨k + 1, n + 1, k + 1, false, false, by have h := HL.out; rw [show endT false n (k - b + 1) = [] from rfl, List.append_nil] at h; exact h, by go_num, by go_num, rfl, rfl, by go_num⟩⟩
        case measure => simp [intOf] <;> omega
    have e10 : ((c.toNat : Int) == 10) = false := by rw [beq_eq_false_iff_ne]; omega
    have HW1 : Hid (∀ W, Calls Tryd.prog 20 #[.int .u8 (c.toNat : Int)] W fun e w' => e = .returned (.bool (!nonw c)) ∧ W = w') := shid fun W => by
      have h := rwhite_any (c.toNat : Int) W
      rw [show decide (whiteP (c.toNat : Int)) = !nonw c by simp [nonw]] at h
      exact h
    cases hnw : nonw c with
    | false =>
      rw [hnw] at HW1
      have HS := shid (HA.out.skip HC.out h10 (by rw [hnw]; rfl))
      clear hnw
      go_wp2_with (go_at_call 20; (with_reducible refine (HW1.out _).mono ?_); rintro e w7 ⟨rfl, rfl⟩)
      go_roundw
      case rel => exact ⟨_, HM.out, by omega, .inl ⟨k + 1, n, b, s, o, HS.out, rfl, rfl, rfl, rfl, by go_num⟩⟩
      case measure => simp [intOf] <;> omega
    | true =>
    rw [hnw] at HW1
    cases o with
    | true =>
      have HS := shid (HA.out.skip HC.out h10 (by simp))
      clear hnw
      go_wp2_with (go_at_call 20; (with_reducible refine (HW1.out _).mono ?_); rintro e w7 ⟨rfl, rfl⟩)
      go_roundw
      case rel => exact ⟨_, HM.out, by omega, .inl ⟨k + 1, n, b, s, true, HS.out, rfl, rfl, rfl, rfl, by go_num⟩⟩
      case measure => simp [intOf] <;> omega
    | false =>
    rcases Nat.lt_or_ge b k with hbk2 | hbk2
    case inl =>
      obtain ⟨j, rfl⟩ : ∃ j, k = j + 1 := ⟨k - 1, by omega⟩
      obtain ⟨p, hp⟩ : ∃ p, l[j]? = some p := ⟨_, List.getElem?_eq_getElem (by omega)⟩
      have hsj : j < (⟨l.toArray⟩ : ByteArray).size := by simp [ByteArray.size]; omega
      have hpj : (⟨l.toArray⟩ : ByteArray)[j]'hsj = p := (List.getElem?_eq_some_iff.1 hp).2
      have q6 : (b : Int) < (j : Int) + 1 := by omega
      have HIN := shid (inwAt_next hp (show b ≤ j by omega))
      have HW2 : Hid (∀ W, Calls Tryd.prog 20 #[.int .u8 (p.toNat : Int)] W fun e w' => e = .returned (.bool (!nonw p)) ∧ W = w') := shid fun W => by
        have h := rwhite_any (p.toNat : Int) W
        rw [show decide (whiteP (p.toNat : Int)) = !nonw p by simp [nonw]] at h
        exact h
      clear hp
      cases hnp : nonw p with
      | true =>
        rw [hnp] at HW2
        have HS := shid (HA.out.skip HC.out h10 (by rw [HIN.out, hnp]; simp))
        clear hnw hnp
        go_wp2_with (first | (go_at_call 20; (with_reducible refine (HW1.out _).mono ?_); rintro e w7 ⟨rfl, rfl⟩) | (go_at_call 20; (with_reducible refine (HW2.out _).mono ?_); rintro e w7 ⟨rfl, rfl⟩))
        go_roundw
        case rel => exact ⟨_, HM.out, by omega, .inl ⟨j + 1 + 1, n, b, s, false, HS.out, rfl, rfl, rfl, rfl, by go_num⟩⟩
        case measure => simp [intOf] <;> omega
      | false =>
        rw [hnp] at HW2
        have hst : ((!nonw c || false) || inwAt l (j + 1) b) = false := by rw [HIN.out, hnp, hnw]; rfl
        have HST := shid hst
        have HNW := shid (show inword c = true by simp [inword, hnw, h10])
        clear hnw hnp hst HIN
        cases s with
        | true =>
          have HSM := shid (show (!true && decide (c.toNat = 35)) = false from rfl)
          obtain ⟨E, hkE, hE, hin, hend, hwd⟩ := word_end (l := l) (k := j + 1) HC.out HNW.out
          have HIN := shid hin
          have HEND := shid hend
          have HWE := shid hwd
          clear hin hend hwd
          have e1 : ((j + 1 : Nat) : Int) ≤ E := by omega
          have e2 : (E : Int) ≤ l.length := by omega
          have e3 : j + 1 ≤ E := by omega
          go_upto_block 2 with (first | (go_at_call 20; (with_reducible refine (HW1.out _).mono ?_); rintro e w7 ⟨rfl, rfl⟩) | (go_at_call 20; (with_reducible refine (HW2.out _).mono ?_); rintro e w7 ⟨rfl, rfl⟩))
          go_cut [11] from 77 to 119 (fun e w' => e = .int .i64 (E : Int) ∧ wr = w')
          case first =>
            go_wp2_with fail
            go_loop [11] (fun e => ∃ q : Nat, j + 1 ≤ q ∧ q ≤ E ∧ e = .int .i64 (q : Int)) (fun e => E - (intOf e).toNat)
            case atStart => exact ⟨j + 1, Nat.le_refl _, by omega, by go_num⟩
            case round =>
              obtain ⟨q, hkq, hq, rfl⟩ := hrel
              rcases Nat.lt_or_ge q E with hqE | hqE
              · obtain ⟨d, hd⟩ : ∃ d, l[q]? = some d := ⟨_, List.getElem?_eq_getElem (by omega)⟩
                have hdi := HIN.out q d hkq hqE hd
                simp only [inword, Bool.and_eq_true, decide_eq_true_eq] at hdi
                obtain ⟨hdw, hd10⟩ := hdi
                have hsq : q < (⟨l.toArray⟩ : ByteArray).size := by simp [ByteArray.size]; omega
                have hxq : (⟨l.toArray⟩ : ByteArray)[q]'hsq = d := (List.getElem?_eq_some_iff.1 hd).2
                have f1 : (q : Int) < l.length := by omega
                have f2 : ((d.toNat : Int) == 10) = false := by rw [beq_eq_false_iff_ne]; omega
                have f3 : ¬ ((d.toNat : Int) = 10) := by omega
                have HWD : Hid (∀ W, Calls Tryd.prog 20 #[.int .u8 (d.toNat : Int)] W fun e w' => e = .returned (.bool false) ∧ W = w') := shid fun W => by
                  have h := rwhite_any (d.toNat : Int) W
                  rw [show decide (whiteP (d.toNat : Int)) = !nonw d by simp [nonw], hdw] at h
                  exact h
                clear hd hdw hd10
                go_wp2_with (go_at_call 20; (with_reducible refine (HWD.out _).mono ?_); rintro e w7 ⟨rfl, rfl⟩)
                exact ⟨⟨q + 1, by omega, by omega, by go_num⟩, by simp [intOf] <;> omega⟩
              · obtain rfl : q = E := by omega
                rcases HEND.out with hz | ⟨d, hd, hd10⟩ | ⟨d, hd, hd10, hdw⟩
                · have f1 : decide ((q : Int) < l.length) = false := decide_eq_false (by omega)
                  have f2 : ¬ ((q : Int) < l.length) := by omega
                  clear hz
                  go_wp2_with fail
                  go_meet
                  exact ⟨rfl, rfl⟩
                · have hsq : q < (⟨l.toArray⟩ : ByteArray).size := by have := (List.getElem?_eq_some_iff.1 hd).1; simpa [ByteArray.size] using this
                  have hxq : (⟨l.toArray⟩ : ByteArray)[q]'hsq = d := (List.getElem?_eq_some_iff.1 hd).2
                  have f1 : (q : Int) < l.length := by have := (List.getElem?_eq_some_iff.1 hd).1; omega
                  have f2 : ((d.toNat : Int) == 10) = true := by rw [beq_iff_eq]; omega
                  have f3 : (d.toNat : Int) = 10 := by omega
                  clear hd hd10
                  go_wp2_with fail
                  go_meet
                  exact ⟨rfl, rfl⟩
                · have hsq : q < (⟨l.toArray⟩ : ByteArray).size := by have := (List.getElem?_eq_some_iff.1 hd).1; simpa [ByteArray.size] using this
                  have hxq : (⟨l.toArray⟩ : ByteArray)[q]'hsq = d := (List.getElem?_eq_some_iff.1 hd).2
                  have f1 : (q : Int) < l.length := by have := (List.getElem?_eq_some_iff.1 hd).1; omega
                  have f2 : ((d.toNat : Int) == 10) = false := by rw [beq_eq_false_iff_ne]; omega
                  have f3 : ¬ ((d.toNat : Int) = 10) := by omega
                  have HWD : Hid (∀ W, Calls Tryd.prog 20 #[.int .u8 (d.toNat : Int)] W fun e w' => e = .returned (.bool true) ∧ W = w') := shid fun W => by
                    have h := rwhite_any (d.toNat : Int) W
                    rw [show decide (whiteP (d.toNat : Int)) = !nonw d by simp [nonw], hdw] at h
                    exact h
                  clear hd hdw hd10
                  go_wp2_with (go_at_call 20; (with_reducible refine (HWD.out _).mono ?_); rintro e w7 ⟨rfl, rfl⟩)
                  go_meet
                  exact ⟨rfl, rfl⟩
          obtain ⟨rfl, rfl⟩ := hcut
          cases htb : tokB ((l.drop (j + 1)).takeWhile inword) with
          | some x =>
            obtain ⟨xk, xt, xn⟩ := x
            have HT := shid (HA.out.tok HC.out h10 HST.out HSM.out htb)
            have HWORD := shid fun W => word_some hl HC.out HNW.out HWE.out htb W
            clear htb
            go_upto_region 22 with (go_at_call 21; (with_reducible refine (HWORD.out _).mono ?_); rintro e w7 ⟨rfl, hb7⟩)
            have HM8 := shid ((HM.out.below hb7).below ((Below.refl _ _).alloc (Nat.le_refl _) (.cells #[.int .u8 (xk : Int), .string ⟨xt.toArray⟩, .int .u32 (xn : Int), .int .i64 (n : Int), .int .i64 ((j : Int) + 1 - b + 1)] 41)))
            obtain ⟨v7, W7, hrun7, hrow7, hbl7⟩ := app_one (W := w7.alloc (.cells #[.int .u8 (xk : Int), .string ⟨xt.toArray⟩, .int .u32 (xn : Int), .int .i64 (n : Int), .int .i64 ((j : Int) + 1 - b + 1)] 41)) HM8.out.row ⟨xk, xt, xn, n, j + 1 - b + 1⟩ (by omega) HM8.out.lt
            have hcolK : ((j + 1 - b + 1 : Nat) : Int) = (j : Int) + 1 - b + 1 := by omega
            simp only [hcolK] at hrun7
            rw [World.size_alloc] at hrun7
            have HR7 := shid hrun7
            have HW7 := shid (HM8.out.go hbl7 hrow7)
            clear hrun7 hrow7 hbl7 hcolK hb7
            go_wp2_with (at_builtin; refine wpList_app_eq Tryd.prog rfl _ _ 23 rfl _ _ _ _ rfl rfl HR7.out ?_)
            go_roundw
            case rel => exact ⟨_, HW7.out, by simp; omega, .inl ⟨j + 1 + 1, n, b, true, false, HT.out, rfl, rfl, rfl, rfl, by go_num⟩⟩
            case measure => simp [intOf] <;> omega
          | none =>
            have HX := shid (HA.out.err HC.out h10 HST.out HSM.out htb)
            have HWORD := shid fun W => word_none hl HC.out HNW.out HWE.out htb W
            clear htb
            go_upto_region 24 with (go_at_call 21; (with_reducible refine (HWORD.out _).mono ?_); rintro e w7 ⟨rfl, hb7⟩)
            have HM8 := shid ((HM.out.below hb7).below ((Below.refl _ _).alloc (Nat.le_refl _) (.cells #[.int .u8 0, .string ⟨((l.drop (j + 1)).takeWhile inword).toArray⟩, .int .u32 0, .int .i64 (n : Int), .int .i64 ((j : Int) + 1 - b + 1)] 41)))
            have hnew := World.alloc_heap_new w7 (.cells #[.int .u8 0, .string ⟨((l.drop (j + 1)).takeWhile inword).toArray⟩, .int .u32 0, .int .i64 (n : Int), .int .i64 ((j : Int) + 1 - b + 1)] 41)
            have n3 : (w7.alloc (.cells #[.int .u8 0, .string ⟨((l.drop (j + 1)).takeWhile inword).toArray⟩, .int .u32 0, .int .i64 (n : Int), .int .i64 ((j : Int) + 1 - b + 1)] 41)).cell? ⟨w7.heap.size, 3, none⟩ = some (.int .i64 (n : Int)) := blk_cell hnew rfl
            have n4 : (w7.alloc (.cells #[.int .u8 0, .string ⟨((l.drop (j + 1)).takeWhile inword).toArray⟩, .int .u32 0, .int .i64 (n : Int), .int .i64 ((j : Int) + 1 - b + 1)] 41)).cell? ⟨w7.heap.size, 4, none⟩ = some (.int .i64 ((j : Int) + 1 - b + 1)) := blk_cell hnew rfl
            have c0 := blk_cell HM8.out.pos (j := 0) rfl
            have c1 := blk_cell HM8.out.pos (j := 1) rfl
            have z0 := blk_frozen HM8.out.pos 0
            have z1 := blk_frozen HM8.out.pos 1
            have hne : ¬ w7.heap.size = w.heap.size := by have h1 := (HM.out.below hb7).lt; omega
            have hcolK : ((j + 1 - b + 1 : Nat) : Int) = (j : Int) + 1 - b + 1 := by omega
            have HCK := shid hcolK
            clear hnew hcolK
            generalize w7.alloc (.cells #[.int .u8 0, .string ⟨((l.drop (j + 1)).takeWhile inword).toArray⟩, .int .u32 0, .int .i64 (n : Int), .int .i64 ((j : Int) + 1 - b + 1)] 41) = w8 at HM8 n3 n4 c0 c1 z0 z1 ⊢
            generalize w7.heap.size = tb at n3 n4 hne ⊢
            clear hb7
            have HPP := shid (HM8.out.pos2 (n : Int) ((j : Int) + 1 - b + 1))
            go_region
            go_wp2_with fail
            change bodyPost Tryd.prog Tryd.f8 (RLexOk l w) .ret _ _
            refine bodyPost_ret (lex_slot_row_slot (P := Tryd.prog) Tryd.results8 _ _ w.heap.size _ _ (0, 0) _ _ _ rfl rfl rfl HPP.out.1 Tryd.underlying25 rfl (by kernel_rfl)) rfl ⟨?_, HPP.out.2⟩
            rw [HX.out]
            show _ = Ending.returned (.tuple #[.slice none 0 0, .agg #[.int .i64 (n : Int), .int .i64 ((j + 1 - b + 1 : Nat) : Int)], .int .i64 120])
            rw [HCK.out]
            rfl
        | false =>
          by_cases h35 : c.toNat = 35
          case pos =>
            have e35 : ((c.toNat : Int) == 35) = true := by rw [beq_iff_eq]; omega
            have HS := shid (HA.out.hash HC.out h10 HST.out h35)
            clear h35
            go_wp2_with (first | (go_at_call 20; (with_reducible refine (HW1.out _).mono ?_); rintro e w7 ⟨rfl, rfl⟩) | (go_at_call 20; (with_reducible refine (HW2.out _).mono ?_); rintro e w7 ⟨rfl, rfl⟩))
            go_roundw
            case rel => exact ⟨_, HM.out, by omega, .inl ⟨j + 1 + 1, n, b, false, true, HS.out, rfl, rfl, rfl, rfl, by go_num⟩⟩
            case measure => simp [intOf] <;> omega
          have e35 : ((c.toNat : Int) == 35) = false := by rw [beq_eq_false_iff_ne]; omega
          have HSM := shid (show (!false && decide (c.toNat = 35)) = false by rw [decide_eq_false h35, Bool.and_false])
          clear h35
          obtain ⟨E, hkE, hE, hin, hend, hwd⟩ := word_end (l := l) (k := j + 1) HC.out HNW.out
          have HIN := shid hin
          have HEND := shid hend
          have HWE := shid hwd
          clear hin hend hwd
          have e1 : ((j + 1 : Nat) : Int) ≤ E := by omega
          have e2 : (E : Int) ≤ l.length := by omega
          have e3 : j + 1 ≤ E := by omega
          go_upto_block 2 with (first | (go_at_call 20; (with_reducible refine (HW1.out _).mono ?_); rintro e w7 ⟨rfl, rfl⟩) | (go_at_call 20; (with_reducible refine (HW2.out _).mono ?_); rintro e w7 ⟨rfl, rfl⟩))
          go_cut [11] from 77 to 119 (fun e w' => e = .int .i64 (E : Int) ∧ wr = w')
          case first =>
            go_wp2_with fail
            go_loop [11] (fun e => ∃ q : Nat, j + 1 ≤ q ∧ q ≤ E ∧ e = .int .i64 (q : Int)) (fun e => E - (intOf e).toNat)
            case atStart => exact ⟨j + 1, Nat.le_refl _, by omega, by go_num⟩
            case round =>
              obtain ⟨q, hkq, hq, rfl⟩ := hrel
              rcases Nat.lt_or_ge q E with hqE | hqE
              · obtain ⟨d, hd⟩ : ∃ d, l[q]? = some d := ⟨_, List.getElem?_eq_getElem (by omega)⟩
                have hdi := HIN.out q d hkq hqE hd
                simp only [inword, Bool.and_eq_true, decide_eq_true_eq] at hdi
                obtain ⟨hdw, hd10⟩ := hdi
                have hsq : q < (⟨l.toArray⟩ : ByteArray).size := by simp [ByteArray.size]; omega
                have hxq : (⟨l.toArray⟩ : ByteArray)[q]'hsq = d := (List.getElem?_eq_some_iff.1 hd).2
                have f1 : (q : Int) < l.length := by omega
                have f2 : ((d.toNat : Int) == 10) = false := by rw [beq_eq_false_iff_ne]; omega
                have f3 : ¬ ((d.toNat : Int) = 10) := by omega
                have HWD : Hid (∀ W, Calls Tryd.prog 20 #[.int .u8 (d.toNat : Int)] W fun e w' => e = .returned (.bool false) ∧ W = w') := shid fun W => by
                  have h := rwhite_any (d.toNat : Int) W
                  rw [show decide (whiteP (d.toNat : Int)) = !nonw d by simp [nonw], hdw] at h
                  exact h
                clear hd hdw hd10
                go_wp2_with (go_at_call 20; (with_reducible refine (HWD.out _).mono ?_); rintro e w7 ⟨rfl, rfl⟩)
                exact ⟨⟨q + 1, by omega, by omega, by go_num⟩, by simp [intOf] <;> omega⟩
              · obtain rfl : q = E := by omega
                rcases HEND.out with hz | ⟨d, hd, hd10⟩ | ⟨d, hd, hd10, hdw⟩
                · have f1 : decide ((q : Int) < l.length) = false := decide_eq_false (by omega)
                  have f2 : ¬ ((q : Int) < l.length) := by omega
                  clear hz
                  go_wp2_with fail
                  go_meet
                  exact ⟨rfl, rfl⟩
                · have hsq : q < (⟨l.toArray⟩ : ByteArray).size := by have := (List.getElem?_eq_some_iff.1 hd).1; simpa [ByteArray.size] using this
                  have hxq : (⟨l.toArray⟩ : ByteArray)[q]'hsq = d := (List.getElem?_eq_some_iff.1 hd).2
                  have f1 : (q : Int) < l.length := by have := (List.getElem?_eq_some_iff.1 hd).1; omega
                  have f2 : ((d.toNat : Int) == 10) = true := by rw [beq_iff_eq]; omega
                  have f3 : (d.toNat : Int) = 10 := by omega
                  clear hd hd10
                  go_wp2_with fail
                  go_meet
                  exact ⟨rfl, rfl⟩
                · have hsq : q < (⟨l.toArray⟩ : ByteArray).size := by have := (List.getElem?_eq_some_iff.1 hd).1; simpa [ByteArray.size] using this
                  have hxq : (⟨l.toArray⟩ : ByteArray)[q]'hsq = d := (List.getElem?_eq_some_iff.1 hd).2
                  have f1 : (q : Int) < l.length := by have := (List.getElem?_eq_some_iff.1 hd).1; omega
                  have f2 : ((d.toNat : Int) == 10) = false := by rw [beq_eq_false_iff_ne]; omega
                  have f3 : ¬ ((d.toNat : Int) = 10) := by omega
                  have HWD : Hid (∀ W, Calls Tryd.prog 20 #[.int .u8 (d.toNat : Int)] W fun e w' => e = .returned (.bool true) ∧ W = w') := shid fun W => by
                    have h := rwhite_any (d.toNat : Int) W
                    rw [show decide (whiteP (d.toNat : Int)) = !nonw d by simp [nonw], hdw] at h
                    exact h
                  clear hd hdw hd10
                  go_wp2_with (go_at_call 20; (with_reducible refine (HWD.out _).mono ?_); rintro e w7 ⟨rfl, rfl⟩)
                  go_meet
                  exact ⟨rfl, rfl⟩
          obtain ⟨rfl, rfl⟩ := hcut
          cases htb : tokB ((l.drop (j + 1)).takeWhile inword) with
          | some x =>
            obtain ⟨xk, xt, xn⟩ := x
            have HT := shid (HA.out.tok HC.out h10 HST.out HSM.out htb)
            have HWORD := shid fun W => word_some hl HC.out HNW.out HWE.out htb W
            clear htb
            go_upto_region 22 with (go_at_call 21; (with_reducible refine (HWORD.out _).mono ?_); rintro e w7 ⟨rfl, hb7⟩)
            have HM8 := shid ((HM.out.below hb7).below ((Below.refl _ _).alloc (Nat.le_refl _) (.cells #[.int .u8 (xk : Int), .string ⟨xt.toArray⟩, .int .u32 (xn : Int), .int .i64 (n : Int), .int .i64 ((j : Int) + 1 - b + 1)] 41)))
            obtain ⟨v7, W7, hrun7, hrow7, hbl7⟩ := app_one (W := w7.alloc (.cells #[.int .u8 (xk : Int), .string ⟨xt.toArray⟩, .int .u32 (xn : Int), .int .i64 (n : Int), .int .i64 ((j : Int) + 1 - b + 1)] 41)) HM8.out.row ⟨xk, xt, xn, n, j + 1 - b + 1⟩ (by omega) HM8.out.lt
            have hcolK : ((j + 1 - b + 1 : Nat) : Int) = (j : Int) + 1 - b + 1 := by omega
            simp only [hcolK] at hrun7
            rw [World.size_alloc] at hrun7
            have HR7 := shid hrun7
            have HW7 := shid (HM8.out.go hbl7 hrow7)
            clear hrun7 hrow7 hbl7 hcolK hb7
            go_wp2_with (at_builtin; refine wpList_app_eq Tryd.prog rfl _ _ 23 rfl _ _ _ _ rfl rfl HR7.out ?_)
            go_roundw
            case rel => exact ⟨_, HW7.out, by simp; omega, .inl ⟨j + 1 + 1, n, b, true, false, HT.out, rfl, rfl, rfl, rfl, by go_num⟩⟩
            case measure => simp [intOf] <;> omega
          | none =>
            have HX := shid (HA.out.err HC.out h10 HST.out HSM.out htb)
            have HWORD := shid fun W => word_none hl HC.out HNW.out HWE.out htb W
            clear htb
            go_upto_region 24 with (go_at_call 21; (with_reducible refine (HWORD.out _).mono ?_); rintro e w7 ⟨rfl, hb7⟩)
            have HM8 := shid ((HM.out.below hb7).below ((Below.refl _ _).alloc (Nat.le_refl _) (.cells #[.int .u8 0, .string ⟨((l.drop (j + 1)).takeWhile inword).toArray⟩, .int .u32 0, .int .i64 (n : Int), .int .i64 ((j : Int) + 1 - b + 1)] 41)))
            have hnew := World.alloc_heap_new w7 (.cells #[.int .u8 0, .string ⟨((l.drop (j + 1)).takeWhile inword).toArray⟩, .int .u32 0, .int .i64 (n : Int), .int .i64 ((j : Int) + 1 - b + 1)] 41)
            have n3 : (w7.alloc (.cells #[.int .u8 0, .string ⟨((l.drop (j + 1)).takeWhile inword).toArray⟩, .int .u32 0, .int .i64 (n : Int), .int .i64 ((j : Int) + 1 - b + 1)] 41)).cell? ⟨w7.heap.size, 3, none⟩ = some (.int .i64 (n : Int)) := blk_cell hnew rfl
            have n4 : (w7.alloc (.cells #[.int .u8 0, .string ⟨((l.drop (j + 1)).takeWhile inword).toArray⟩, .int .u32 0, .int .i64 (n : Int), .int .i64 ((j : Int) + 1 - b + 1)] 41)).cell? ⟨w7.heap.size, 4, none⟩ = some (.int .i64 ((j : Int) + 1 - b + 1)) := blk_cell hnew rfl
            have c0 := blk_cell HM8.out.pos (j := 0) rfl
            have c1 := blk_cell HM8.out.pos (j := 1) rfl
            have z0 := blk_frozen HM8.out.pos 0
            have z1 := blk_frozen HM8.out.pos 1
            have hne : ¬ w7.heap.size = w.heap.size := by have h1 := (HM.out.below hb7).lt; omega
            have hcolK : ((j + 1 - b + 1 : Nat) : Int) = (j : Int) + 1 - b + 1 := by omega
            have HCK := shid hcolK
            clear hnew hcolK
            generalize w7.alloc (.cells #[.int .u8 0, .string ⟨((l.drop (j + 1)).takeWhile inword).toArray⟩, .int .u32 0, .int .i64 (n : Int), .int .i64 ((j : Int) + 1 - b + 1)] 41) = w8 at HM8 n3 n4 c0 c1 z0 z1 ⊢
            generalize w7.heap.size = tb at n3 n4 hne ⊢
            clear hb7
            have HPP := shid (HM8.out.pos2 (n : Int) ((j : Int) + 1 - b + 1))
            go_region
            go_wp2_with fail
            change bodyPost Tryd.prog Tryd.f8 (RLexOk l w) .ret _ _
            refine bodyPost_ret (lex_slot_row_slot (P := Tryd.prog) Tryd.results8 _ _ w.heap.size _ _ (0, 0) _ _ _ rfl rfl rfl HPP.out.1 Tryd.underlying25 rfl (by kernel_rfl)) rfl ⟨?_, HPP.out.2⟩
            rw [HX.out]
            show _ = Ending.returned (.tuple #[.slice none 0 0, .agg #[.int .i64 (n : Int), .int .i64 ((j + 1 - b + 1 : Nat) : Int)], .int .i64 120])
            rw [HCK.out]
            rfl
    case inr =>
      obtain rfl : b = k := by omega
      have HST := shid (show ((!nonw c || false) || inwAt l b b) = false by rw [inwAt_self, hnw]; rfl)
      have HNW := shid (show inword c = true by simp [inword, hnw, h10])
      clear hnw
      cases s with
      | true =>
        have HSM := shid (show (!true && decide (c.toNat = 35)) = false from rfl)
        obtain ⟨E, hkE, hE, hin, hend, hwd⟩ := word_end (l := l) (k := b) HC.out HNW.out
        have HIN := shid hin
        have HEND := shid hend
        have HWE := shid hwd
        clear hin hend hwd
        have e1 : ((b : Nat) : Int) ≤ E := by omega
        have e2 : (E : Int) ≤ l.length := by omega
        have e3 : b ≤ E := by omega
        go_upto_block 2 with (first | (go_at_call 20; (with_reducible refine (HW1.out _).mono ?_); rintro e w7 ⟨rfl, rfl⟩))
        go_cut [11] from 77 to 119 (fun e w' => e = .int .i64 (E : Int) ∧ wr = w')
        case first =>
          go_wp2_with fail
          go_loop [11] (fun e => ∃ q : Nat, b ≤ q ∧ q ≤ E ∧ e = .int .i64 (q : Int)) (fun e => E - (intOf e).toNat)
          case atStart => exact ⟨b, Nat.le_refl _, by omega, by go_num⟩
          case round =>
            obtain ⟨q, hkq, hq, rfl⟩ := hrel
            rcases Nat.lt_or_ge q E with hqE | hqE
            · obtain ⟨d, hd⟩ : ∃ d, l[q]? = some d := ⟨_, List.getElem?_eq_getElem (by omega)⟩
              have hdi := HIN.out q d hkq hqE hd
              simp only [inword, Bool.and_eq_true, decide_eq_true_eq] at hdi
              obtain ⟨hdw, hd10⟩ := hdi
              have hsq : q < (⟨l.toArray⟩ : ByteArray).size := by simp [ByteArray.size]; omega
              have hxq : (⟨l.toArray⟩ : ByteArray)[q]'hsq = d := (List.getElem?_eq_some_iff.1 hd).2
              have f1 : (q : Int) < l.length := by omega
              have f2 : ((d.toNat : Int) == 10) = false := by rw [beq_eq_false_iff_ne]; omega
              have f3 : ¬ ((d.toNat : Int) = 10) := by omega
              have HWD : Hid (∀ W, Calls Tryd.prog 20 #[.int .u8 (d.toNat : Int)] W fun e w' => e = .returned (.bool false) ∧ W = w') := shid fun W => by
                have h := rwhite_any (d.toNat : Int) W
                rw [show decide (whiteP (d.toNat : Int)) = !nonw d by simp [nonw], hdw] at h
                exact h
              clear hd hdw hd10
              go_wp2_with (go_at_call 20; (with_reducible refine (HWD.out _).mono ?_); rintro e w7 ⟨rfl, rfl⟩)
              exact ⟨⟨q + 1, by omega, by omega, by go_num⟩, by simp [intOf] <;> omega⟩
            · obtain rfl : q = E := by omega
              rcases HEND.out with hz | ⟨d, hd, hd10⟩ | ⟨d, hd, hd10, hdw⟩
              · have f1 : decide ((q : Int) < l.length) = false := decide_eq_false (by omega)
                have f2 : ¬ ((q : Int) < l.length) := by omega
                clear hz
                go_wp2_with fail
                go_meet
                exact ⟨rfl, rfl⟩
              · have hsq : q < (⟨l.toArray⟩ : ByteArray).size := by have := (List.getElem?_eq_some_iff.1 hd).1; simpa [ByteArray.size] using this
                have hxq : (⟨l.toArray⟩ : ByteArray)[q]'hsq = d := (List.getElem?_eq_some_iff.1 hd).2
                have f1 : (q : Int) < l.length := by have := (List.getElem?_eq_some_iff.1 hd).1; omega
                have f2 : ((d.toNat : Int) == 10) = true := by rw [beq_iff_eq]; omega
                have f3 : (d.toNat : Int) = 10 := by omega
                clear hd hd10
                go_wp2_with fail
                go_meet
                exact ⟨rfl, rfl⟩
              · have hsq : q < (⟨l.toArray⟩ : ByteArray).size := by have := (List.getElem?_eq_some_iff.1 hd).1; simpa [ByteArray.size] using this
                have hxq : (⟨l.toArray⟩ : ByteArray)[q]'hsq = d := (List.getElem?_eq_some_iff.1 hd).2
                have f1 : (q : Int) < l.length := by have := (List.getElem?_eq_some_iff.1 hd).1; omega
                have f2 : ((d.toNat : Int) == 10) = false := by rw [beq_eq_false_iff_ne]; omega
                have f3 : ¬ ((d.toNat : Int) = 10) := by omega
                have HWD : Hid (∀ W, Calls Tryd.prog 20 #[.int .u8 (d.toNat : Int)] W fun e w' => e = .returned (.bool true) ∧ W = w') := shid fun W => by
                  have h := rwhite_any (d.toNat : Int) W
                  rw [show decide (whiteP (d.toNat : Int)) = !nonw d by simp [nonw], hdw] at h
                  exact h
                clear hd hdw hd10
                go_wp2_with (go_at_call 20; (with_reducible refine (HWD.out _).mono ?_); rintro e w7 ⟨rfl, rfl⟩)
                go_meet
                exact ⟨rfl, rfl⟩
        obtain ⟨rfl, rfl⟩ := hcut
        cases htb : tokB ((l.drop (b)).takeWhile inword) with
        | some x =>
          obtain ⟨xk, xt, xn⟩ := x
          have HT := shid (HA.out.tok HC.out h10 HST.out HSM.out htb)
          have HWORD := shid fun W => word_some hl HC.out HNW.out HWE.out htb W
          clear htb
          go_upto_region 22 with (go_at_call 21; (with_reducible refine (HWORD.out _).mono ?_); rintro e w7 ⟨rfl, hb7⟩)
          have HM8 := shid ((HM.out.below hb7).below ((Below.refl _ _).alloc (Nat.le_refl _) (.cells #[.int .u8 (xk : Int), .string ⟨xt.toArray⟩, .int .u32 (xn : Int), .int .i64 (n : Int), .int .i64 (1)] 41)))
          obtain ⟨v7, W7, hrun7, hrow7, hbl7⟩ := app_one (W := w7.alloc (.cells #[.int .u8 (xk : Int), .string ⟨xt.toArray⟩, .int .u32 (xn : Int), .int .i64 (n : Int), .int .i64 (1)] 41)) HM8.out.row ⟨xk, xt, xn, n, b - b + 1⟩ (by omega) HM8.out.lt
          have hcolK : ((b - b + 1 : Nat) : Int) = 1 := by omega
          simp only [hcolK] at hrun7
          rw [World.size_alloc] at hrun7
          have HR7 := shid hrun7
          have HW7 := shid (HM8.out.go hbl7 hrow7)
          clear hrun7 hrow7 hbl7 hcolK hb7
          go_wp2_with (at_builtin; refine wpList_app_eq Tryd.prog rfl _ _ 23 rfl _ _ _ _ rfl rfl HR7.out ?_)
          go_roundw
          case rel => exact ⟨_, HW7.out, by simp; omega, .inl ⟨b + 1, n, b, true, false, HT.out, rfl, rfl, rfl, rfl, by go_num⟩⟩
          case measure => simp [intOf] <;> omega
        | none =>
          have HX := shid (HA.out.err HC.out h10 HST.out HSM.out htb)
          have HWORD := shid fun W => word_none hl HC.out HNW.out HWE.out htb W
          clear htb
          go_upto_region 24 with (go_at_call 21; (with_reducible refine (HWORD.out _).mono ?_); rintro e w7 ⟨rfl, hb7⟩)
          have HM8 := shid ((HM.out.below hb7).below ((Below.refl _ _).alloc (Nat.le_refl _) (.cells #[.int .u8 0, .string ⟨((l.drop (b)).takeWhile inword).toArray⟩, .int .u32 0, .int .i64 (n : Int), .int .i64 (1)] 41)))
          have hnew := World.alloc_heap_new w7 (.cells #[.int .u8 0, .string ⟨((l.drop (b)).takeWhile inword).toArray⟩, .int .u32 0, .int .i64 (n : Int), .int .i64 (1)] 41)
          have n3 : (w7.alloc (.cells #[.int .u8 0, .string ⟨((l.drop (b)).takeWhile inword).toArray⟩, .int .u32 0, .int .i64 (n : Int), .int .i64 (1)] 41)).cell? ⟨w7.heap.size, 3, none⟩ = some (.int .i64 (n : Int)) := blk_cell hnew rfl
          have n4 : (w7.alloc (.cells #[.int .u8 0, .string ⟨((l.drop (b)).takeWhile inword).toArray⟩, .int .u32 0, .int .i64 (n : Int), .int .i64 (1)] 41)).cell? ⟨w7.heap.size, 4, none⟩ = some (.int .i64 (1)) := blk_cell hnew rfl
          have c0 := blk_cell HM8.out.pos (j := 0) rfl
          have c1 := blk_cell HM8.out.pos (j := 1) rfl
          have z0 := blk_frozen HM8.out.pos 0
          have z1 := blk_frozen HM8.out.pos 1
          have hne : ¬ w7.heap.size = w.heap.size := by have h1 := (HM.out.below hb7).lt; omega
          have hcolK : ((b - b + 1 : Nat) : Int) = 1 := by omega
          have HCK := shid hcolK
          clear hnew hcolK
          generalize w7.alloc (.cells #[.int .u8 0, .string ⟨((l.drop (b)).takeWhile inword).toArray⟩, .int .u32 0, .int .i64 (n : Int), .int .i64 (1)] 41) = w8 at HM8 n3 n4 c0 c1 z0 z1 ⊢
          generalize w7.heap.size = tb at n3 n4 hne ⊢
          clear hb7
          have HPP := shid (HM8.out.pos2 (n : Int) (1))
          go_region
          go_wp2_with fail
          change bodyPost Tryd.prog Tryd.f8 (RLexOk l w) .ret _ _
          refine bodyPost_ret (lex_slot_row_slot (P := Tryd.prog) Tryd.results8 _ _ w.heap.size _ _ (0, 0) _ _ _ rfl rfl rfl HPP.out.1 Tryd.underlying25 rfl (by kernel_rfl)) rfl ⟨?_, HPP.out.2⟩
          rw [HX.out]
          show _ = Ending.returned (.tuple #[.slice none 0 0, .agg #[.int .i64 (n : Int), .int .i64 ((b - b + 1 : Nat) : Int)], .int .i64 120])
          rw [HCK.out]
          rfl
      | false =>
        by_cases h35 : c.toNat = 35
        case pos =>
          have e35 : ((c.toNat : Int) == 35) = true := by rw [beq_iff_eq]; omega
          have HS := shid (HA.out.hash HC.out h10 HST.out h35)
          clear h35
          go_wp2_with (first | (go_at_call 20; (with_reducible refine (HW1.out _).mono ?_); rintro e w7 ⟨rfl, rfl⟩))
          go_roundw
          case rel => exact ⟨_, HM.out, by omega, .inl ⟨b + 1, n, b, false, true, HS.out, rfl, rfl, rfl, rfl, by go_num⟩⟩
          case measure => simp [intOf] <;> omega
        have e35 : ((c.toNat : Int) == 35) = false := by rw [beq_eq_false_iff_ne]; omega
        have HSM := shid (show (!false && decide (c.toNat = 35)) = false by rw [decide_eq_false h35, Bool.and_false])
        clear h35
        obtain ⟨E, hkE, hE, hin, hend, hwd⟩ := word_end (l := l) (k := b) HC.out HNW.out
        have HIN := shid hin
        have HEND := shid hend
        have HWE := shid hwd
        clear hin hend hwd
        have e1 : ((b : Nat) : Int) ≤ E := by omega
        have e2 : (E : Int) ≤ l.length := by omega
        have e3 : b ≤ E := by omega
        go_upto_block 2 with (first | (go_at_call 20; (with_reducible refine (HW1.out _).mono ?_); rintro e w7 ⟨rfl, rfl⟩))
        go_cut [11] from 77 to 119 (fun e w' => e = .int .i64 (E : Int) ∧ wr = w')
        case first =>
          go_wp2_with fail
          go_loop [11] (fun e => ∃ q : Nat, b ≤ q ∧ q ≤ E ∧ e = .int .i64 (q : Int)) (fun e => E - (intOf e).toNat)
          case atStart => exact ⟨b, Nat.le_refl _, by omega, by go_num⟩
          case round =>
            obtain ⟨q, hkq, hq, rfl⟩ := hrel
            rcases Nat.lt_or_ge q E with hqE | hqE
            · obtain ⟨d, hd⟩ : ∃ d, l[q]? = some d := ⟨_, List.getElem?_eq_getElem (by omega)⟩
              have hdi := HIN.out q d hkq hqE hd
              simp only [inword, Bool.and_eq_true, decide_eq_true_eq] at hdi
              obtain ⟨hdw, hd10⟩ := hdi
              have hsq : q < (⟨l.toArray⟩ : ByteArray).size := by simp [ByteArray.size]; omega
              have hxq : (⟨l.toArray⟩ : ByteArray)[q]'hsq = d := (List.getElem?_eq_some_iff.1 hd).2
              have f1 : (q : Int) < l.length := by omega
              have f2 : ((d.toNat : Int) == 10) = false := by rw [beq_eq_false_iff_ne]; omega
              have f3 : ¬ ((d.toNat : Int) = 10) := by omega
              have HWD : Hid (∀ W, Calls Tryd.prog 20 #[.int .u8 (d.toNat : Int)] W fun e w' => e = .returned (.bool false) ∧ W = w') := shid fun W => by
                have h := rwhite_any (d.toNat : Int) W
                rw [show decide (whiteP (d.toNat : Int)) = !nonw d by simp [nonw], hdw] at h
                exact h
              clear hd hdw hd10
              go_wp2_with (go_at_call 20; (with_reducible refine (HWD.out _).mono ?_); rintro e w7 ⟨rfl, rfl⟩)
              exact ⟨⟨q + 1, by omega, by omega, by go_num⟩, by simp [intOf] <;> omega⟩
            · obtain rfl : q = E := by omega
              rcases HEND.out with hz | ⟨d, hd, hd10⟩ | ⟨d, hd, hd10, hdw⟩
              · have f1 : decide ((q : Int) < l.length) = false := decide_eq_false (by omega)
                have f2 : ¬ ((q : Int) < l.length) := by omega
                clear hz
                go_wp2_with fail
                go_meet
                exact ⟨rfl, rfl⟩
              · have hsq : q < (⟨l.toArray⟩ : ByteArray).size := by have := (List.getElem?_eq_some_iff.1 hd).1; simpa [ByteArray.size] using this
                have hxq : (⟨l.toArray⟩ : ByteArray)[q]'hsq = d := (List.getElem?_eq_some_iff.1 hd).2
                have f1 : (q : Int) < l.length := by have := (List.getElem?_eq_some_iff.1 hd).1; omega
                have f2 : ((d.toNat : Int) == 10) = true := by rw [beq_iff_eq]; omega
                have f3 : (d.toNat : Int) = 10 := by omega
                clear hd hd10
                go_wp2_with fail
                go_meet
                exact ⟨rfl, rfl⟩
              · have hsq : q < (⟨l.toArray⟩ : ByteArray).size := by have := (List.getElem?_eq_some_iff.1 hd).1; simpa [ByteArray.size] using this
                have hxq : (⟨l.toArray⟩ : ByteArray)[q]'hsq = d := (List.getElem?_eq_some_iff.1 hd).2
                have f1 : (q : Int) < l.length := by have := (List.getElem?_eq_some_iff.1 hd).1; omega
                have f2 : ((d.toNat : Int) == 10) = false := by rw [beq_eq_false_iff_ne]; omega
                have f3 : ¬ ((d.toNat : Int) = 10) := by omega
                have HWD : Hid (∀ W, Calls Tryd.prog 20 #[.int .u8 (d.toNat : Int)] W fun e w' => e = .returned (.bool true) ∧ W = w') := shid fun W => by
                  have h := rwhite_any (d.toNat : Int) W
                  rw [show decide (whiteP (d.toNat : Int)) = !nonw d by simp [nonw], hdw] at h
                  exact h
                clear hd hdw hd10
                go_wp2_with (go_at_call 20; (with_reducible refine (HWD.out _).mono ?_); rintro e w7 ⟨rfl, rfl⟩)
                go_meet
                exact ⟨rfl, rfl⟩
        obtain ⟨rfl, rfl⟩ := hcut
        cases htb : tokB ((l.drop (b)).takeWhile inword) with
        | some x =>
          obtain ⟨xk, xt, xn⟩ := x
          have HT := shid (HA.out.tok HC.out h10 HST.out HSM.out htb)
          have HWORD := shid fun W => word_some hl HC.out HNW.out HWE.out htb W
          clear htb
          go_upto_region 22 with (go_at_call 21; (with_reducible refine (HWORD.out _).mono ?_); rintro e w7 ⟨rfl, hb7⟩)
          have HM8 := shid ((HM.out.below hb7).below ((Below.refl _ _).alloc (Nat.le_refl _) (.cells #[.int .u8 (xk : Int), .string ⟨xt.toArray⟩, .int .u32 (xn : Int), .int .i64 (n : Int), .int .i64 (1)] 41)))
          obtain ⟨v7, W7, hrun7, hrow7, hbl7⟩ := app_one (W := w7.alloc (.cells #[.int .u8 (xk : Int), .string ⟨xt.toArray⟩, .int .u32 (xn : Int), .int .i64 (n : Int), .int .i64 (1)] 41)) HM8.out.row ⟨xk, xt, xn, n, b - b + 1⟩ (by omega) HM8.out.lt
          have hcolK : ((b - b + 1 : Nat) : Int) = 1 := by omega
          simp only [hcolK] at hrun7
          rw [World.size_alloc] at hrun7
          have HR7 := shid hrun7
          have HW7 := shid (HM8.out.go hbl7 hrow7)
          clear hrun7 hrow7 hbl7 hcolK hb7
          go_wp2_with (at_builtin; refine wpList_app_eq Tryd.prog rfl _ _ 23 rfl _ _ _ _ rfl rfl HR7.out ?_)
          go_roundw
          case rel => exact ⟨_, HW7.out, by simp; omega, .inl ⟨b + 1, n, b, true, false, HT.out, rfl, rfl, rfl, rfl, by go_num⟩⟩
          case measure => simp [intOf] <;> omega
        | none =>
          have HX := shid (HA.out.err HC.out h10 HST.out HSM.out htb)
          have HWORD := shid fun W => word_none hl HC.out HNW.out HWE.out htb W
          clear htb
          go_upto_region 24 with (go_at_call 21; (with_reducible refine (HWORD.out _).mono ?_); rintro e w7 ⟨rfl, hb7⟩)
          have HM8 := shid ((HM.out.below hb7).below ((Below.refl _ _).alloc (Nat.le_refl _) (.cells #[.int .u8 0, .string ⟨((l.drop (b)).takeWhile inword).toArray⟩, .int .u32 0, .int .i64 (n : Int), .int .i64 (1)] 41)))
          have hnew := World.alloc_heap_new w7 (.cells #[.int .u8 0, .string ⟨((l.drop (b)).takeWhile inword).toArray⟩, .int .u32 0, .int .i64 (n : Int), .int .i64 (1)] 41)
          have n3 : (w7.alloc (.cells #[.int .u8 0, .string ⟨((l.drop (b)).takeWhile inword).toArray⟩, .int .u32 0, .int .i64 (n : Int), .int .i64 (1)] 41)).cell? ⟨w7.heap.size, 3, none⟩ = some (.int .i64 (n : Int)) := blk_cell hnew rfl
          have n4 : (w7.alloc (.cells #[.int .u8 0, .string ⟨((l.drop (b)).takeWhile inword).toArray⟩, .int .u32 0, .int .i64 (n : Int), .int .i64 (1)] 41)).cell? ⟨w7.heap.size, 4, none⟩ = some (.int .i64 (1)) := blk_cell hnew rfl
          have c0 := blk_cell HM8.out.pos (j := 0) rfl
          have c1 := blk_cell HM8.out.pos (j := 1) rfl
          have z0 := blk_frozen HM8.out.pos 0
          have z1 := blk_frozen HM8.out.pos 1
          have hne : ¬ w7.heap.size = w.heap.size := by have h1 := (HM.out.below hb7).lt; omega
          have hcolK : ((b - b + 1 : Nat) : Int) = 1 := by omega
          have HCK := shid hcolK
          clear hnew hcolK
          generalize w7.alloc (.cells #[.int .u8 0, .string ⟨((l.drop (b)).takeWhile inword).toArray⟩, .int .u32 0, .int .i64 (n : Int), .int .i64 (1)] 41) = w8 at HM8 n3 n4 c0 c1 z0 z1 ⊢
          generalize w7.heap.size = tb at n3 n4 hne ⊢
          clear hb7
          have HPP := shid (HM8.out.pos2 (n : Int) (1))
          go_region
          go_wp2_with fail
          change bodyPost Tryd.prog Tryd.f8 (RLexOk l w) .ret _ _
          refine bodyPost_ret (lex_slot_row_slot (P := Tryd.prog) Tryd.results8 _ _ w.heap.size _ _ (0, 0) _ _ _ rfl rfl rfl HPP.out.1 Tryd.underlying25 rfl (by kernel_rfl)) rfl ⟨?_, HPP.out.2⟩
          rw [HX.out]
          show _ = Ending.returned (.tuple #[.slice none 0 0, .agg #[.int .i64 (n : Int), .int .i64 ((b - b + 1 : Nat) : Int)], .int .i64 120])
          rw [HCK.out]
          rfl
end Go.Proofs.YthnfkecbgfcipaaDoor
