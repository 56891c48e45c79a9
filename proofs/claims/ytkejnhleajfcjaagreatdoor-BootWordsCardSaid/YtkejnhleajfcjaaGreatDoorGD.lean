/- Several texts in one: Row32, AsmWords, AsmJump, AsmConst, AsmCopy. -/
import Derived.Test.YtkejnhleajfcjaaGreatDoorGA
import Derived.Test.YtkejnhleajfcjaaGreatDoorGC
import Derived.Test.YtkejnhleajfcjaaGreatDoorProg
import Derived.Handy
import Derived.WalkLawsBesides
import Derived.Deep.QuietTactic
import Derived.BigQuiet
import Derived.Shelf.SlMaps.Clone
import Derived.Deep.RegionHeld3
/- The walk of muntinref03.Same: are two rows of words the same? -/
namespace Go.Proofs.YtkejnhleajfcjaaGreatDoor
open Go.RowKit
set_option linter.unusedVariables false
/-- A row of words, as it is read. -/
def Reads32 (w : World) (v : Value) (l : List Int) : Prop :=
  l.length ≤ maxLen ∧ ∃ p c, v = .slice p l.length c ∧ (0 < l.length → ∃ b o, p = some ⟨b, o, none⟩ ∧ ∀ k, k < l.length → w.cell? ⟨b, o + k, none⟩ = some (.int .u32 (l.getD k 0)))
theorem Reads32.shape {w : World} {v : Value} {l : List Int} (h : Reads32 w v l) : ∃ b o p c, v = .slice p l.length c ∧ l.length ≤ maxLen ∧ (0 < l.length → p = some ⟨b, o, none⟩) ∧ ∀ k, k < l.length → w.cell? ⟨b, o + k, none⟩ = some (.int .u32 (l.getD k 0)) := by
  obtain ⟨h1, p, c, rfl, h2⟩ := h
  by_cases h0 : 0 < l.length
  · obtain ⟨b, o, rfl, h3⟩ := h2 h0
    exact ⟨b, o, _, c, rfl, h1, fun _ => rfl, h3⟩
  · exact ⟨0, 0, p, c, rfl, h1, fun h => absurd h h0, fun k hk => by omega⟩
theorem Reads32.keepb {a b : World} {v : Value} {l : List Int} (h : Reads32 a v l) (hb : Below a.heap.size a b) : Reads32 b v l := by
  obtain ⟨h1, p, c, rfl, h2⟩ := h
  refine ⟨h1, p, c, rfl, fun h0 => ?_⟩
  obtain ⟨g, o, rfl, h3⟩ := h2 h0
  exact ⟨g, o, rfl, fun k hk => (hb.cell (World.block_lt_of_cell? _ _ (h3 k hk))).trans (h3 k hk)⟩
theorem Reads32.shape' {w : World} {v : Value} {l : List Int} (h : Reads32 w v l) : ∃ p n c, v = .slice p n c := by obtain ⟨_, p, c, h, _⟩ := h; exact ⟨_, _, _, h⟩
theorem Reads32.keepO {S : Nat → Prop} {a b : World} {v : Value} {l : List Int} (h : Reads32 a v l) (o : Only S a b) (hS : ∀ k, v.ownBlock = some k → ¬ S k) : Reads32 b v l := by
  obtain ⟨h1, p, c, rfl, h2⟩ := h
  refine ⟨h1, p, c, rfl, fun h0 => ?_⟩
  obtain ⟨g, q, rfl, h3⟩ := h2 h0
  exact ⟨g, q, rfl, fun k hk => (o.cell (p := ⟨g, q + k, none⟩) (World.block_lt_of_cell? _ _ (h3 k hk)) (hS g rfl)).trans (h3 k hk)⟩
theorem Reads32.of_own {w : World} {base : Nat} {v : Value} {l : List Int} (h : w.ownsRow base 23 1 v l.length (u32s l)) : Reads32 w v l := by
  rcases h.2 with ⟨h1, h2⟩ | ⟨g, cap, cur, h1, h2, h3, h4, h5, h6, h7⟩
  · obtain rfl := List.length_eq_zero_iff.1 h2
    exact ⟨by unfold maxLen; simp, none, 0, h1, fun h => by simp at h⟩
  · refine ⟨by omega, _, cap, h1, fun _ => ⟨g, 0, rfl, fun k hk => ?_⟩⟩
    rw [Nat.zero_add, cell_of_obj h3]
    have e : cur[k]? = (cur.toList.take (l.length * 1))[k]? := by
      rw [List.getElem?_take_of_lt (by omega)]; simp
    rw [e, h7]
    simp [u32s, hk]
theorem U32s.reads {S : Nat → Prop} {w : World} {v : Value} {l : List Int} (h : U32s S w v l) (hl : l.length ≤ maxLen) : Reads32 w v l := by
  obtain ⟨_, p, c, rfl, h2⟩ := h
  exact ⟨hl, p, c, rfl, fun h0 => by obtain ⟨b, o, rfl, _, _, h3⟩ := h2 h0; exact ⟨b, o, rfl, h3⟩⟩
theorem Reads32.u32s {S : Nat → Prop} {w : World} {base : Nat} {v : Value} {l : List Int} (h : w.ownsRow base 23 1 v l.length (u32s l)) (hw : Words l) (hS : ∀ k, base ≤ k → ¬ S k) : U32s S w v l := by
  obtain ⟨hl, p, c, rfl, h2⟩ := Reads32.of_own h
  refine ⟨hw, p, c, rfl, fun h0 => ?_⟩
  obtain ⟨b, o, rfl, h3⟩ := h2 h0
  rcases h.2 with ⟨h1, _⟩ | ⟨g, cap, cur, h1, hb, _⟩
  · cases h1
  · cases h1
    exact ⟨b, 0, rfl, hS _ hb, World.block_lt_of_cell? _ _ (h3 0 h0), h3⟩
set_option maxHeartbeats 1000000 in
theorem same_any (w : World) (u v : Value) (a b : List Int) (hu : Reads32 w u a) (hv : Reads32 w v b) :
    Calls Tryz.prog 22 #[u, v] w fun e w' => e = .returned (.bool (decide (a = b))) ∧ Below w.heap.size w w' := by
  obtain ⟨ba, oa, pa, ca, rfl, la, qa, ha⟩ := hu.shape
  obtain ⟨bb, ob, pb, cb, rfl, lb, qb, hb⟩ := hv.shape
  unfold maxLen at la lb
  have QA := mhid (And.intro qa ha)
  have QB := mhid (And.intro qb hb)
  clear qa ha qb hb hu hv
  by_cases hl : a.length = b.length
  · have hneq : ((a.length : Int) != (b.length : Int)) = false := by simp [hl]
    have HL := mhid hl
    clear hl
    go_enter Tryz.func22, Tryz.ntmps22
    go_wp2_with fail
    go_loopw [5] (fun i wr => ∃ k : Nat, k ≤ a.length ∧ i = .int .i64 k ∧ a.take k = b.take k ∧ (∃ n, wr = w.drewN n)) (fun i _ => a.length - (intOf i).toNat)
    case atStart => exact ⟨0, Nat.zero_le _, rfl, rfl, 0, rfl⟩
    case round =>
      obtain ⟨k, hk, rfl, htk, n, rfl⟩ := hrel
      have HT := mhid htk
      clear htk
      by_cases hlt : k < a.length
      · have hlb : k < b.length := by rw [← HL.out]; exact hlt
        obtain rfl := QA.out.1 (by omega)
        obtain rfl := QB.out.1 (by omega)
        have c1 := QA.out.2 k hlt
        have c2 := QB.out.2 k hlb
        have hx : a.getD k 0 = a[k] := by simp [List.getD_eq_getElem?_getD, hlt]
        have hy : b.getD k 0 = b[k] := by simp [List.getD_eq_getElem?_getD, hlb]
        have t1 := List.take_succ_eq_append_getElem hlt
        have t2 := List.take_succ_eq_append_getElem hlb
        have h1 : (k : Int) < a.length := by omega
        have h2 : (k : Int) < b.length := by omega
        by_cases hxy : a.getD k 0 = b.getD k 0
        · have hab : a.take (k + 1) = b.take (k + 1) := by rw [t1, t2, HT.out, ← hx, ← hy, hxy]
          have HA := mhid hab
          rw [hxy] at c1
          clear hab t1 t2 hx hy hxy
          generalize b.getD k 0 = y at c1 c2
          go_wp2_with fail
          go_quiet (fail)
          go_wp2_with fail
          exact ⟨⟨k + 1, by omega, by go_num, HA.out, _, rfl⟩, by simp [intOf] <;> omega⟩
        · have hab : a ≠ b := fun e => hxy (by rw [e])
          have HA := mhid hab
          clear hab t1 t2 hx hy
          generalize b.getD k 0 = y at c2 hxy
          generalize a.getD k 0 = x at c1 hxy
          have hne : (x != y) = true := by simpa using hxy
          go_wp2_with fail
          go_quiet (fail)
          go_wp2_with fail
          go_ret
          exact ⟨mret_val (by rw [decide_eq_false HA.out]; rfl), below_drewN (below_drewN (Below.refl _ _) n) _⟩
      · obtain rfl : k = a.length := by omega
        have hab : a = b := by
          have h1 := HT.out
          rw [List.take_length, HL.out, List.take_length] at h1; exact h1
        have HA := mhid hab
        clear hab
        go_wp2_with fail
        go_ret
        exact ⟨mret_val (by rw [decide_eq_true HA.out]; rfl), below_drewN (Below.refl _ _) n⟩
  · have hneq : ((a.length : Int) != (b.length : Int)) = true := by simp; omega
    have hab : a ≠ b := fun e => hl (by rw [e])
    have HA := mhid hab
    clear hab hl
    go_enter Tryz.func22, Tryz.ntmps22
    go_wp2_with fail
    go_ret
    exact ⟨mret_val (by rw [decide_eq_false HA.out]; rfl), Below.refl _ _⟩
end Go.Proofs.YtkejnhleajfcjaaGreatDoor
/- Walks of the package asm: Words. -/
namespace Go.Proofs.YtkejnhleajfcjaaGreatDoor
open Go.RowKit Go.Maps
set_option linter.unusedVariables false
set_option linter.unusedSimpArgs false
/-- What an item is at a place: its word, its answer. -/
def itW (M : List (List UInt8 × Int)) (i : Int) : It → Int
  | .put x => encS x
  | .far x nm => match look M nm.data.toList with | none => 0 | some t => farW x (t - i)
def itE (M : List (List UInt8 × Int)) (i : Int) : It → Int
  | .put x => 0
  | .far x nm => match look M nm.data.toList with | none => 7 | some t => farE x (t - i)
/-- All words; the first answer that is not 0. -/
def wordsL (M : List (List UInt8 × Int)) : Nat → List It → List Int
  | _, [] => []
  | i, it :: L => itW M i it :: wordsL M (i + 1) L
def wordsE (M : List (List UInt8 × Int)) : Nat → List It → Int
  | _, [] => 0
  | i, it :: L => if itE M i it = 0 then wordsE M (i + 1) L else itE M i it
theorem wordsL_len (M : List (List UInt8 × Int)) : ∀ (L : List It) (i : Nat), (wordsL M i L).length = L.length := by
  intro L; induction L with
  | nil => intro i; rfl
  | cons x L ih => intro i; simp [wordsL, ih]
theorem wordsL_snoc (M : List (List UInt8 × Int)) (it : It) : ∀ (L : List It) (i : Nat), wordsL M i (L ++ [it]) = wordsL M i L ++ [itW M (i + L.length : Nat) it] := by
  intro L; induction L with
  | nil => intro i; simp [wordsL]
  | cons x L ih => intro i; simp only [List.cons_append, wordsL, ih, List.length_cons]; rw [show i + 1 + L.length = i + (L.length + 1) by omega]
theorem wordsE_append (M : List (List UInt8 × Int)) : ∀ (L L2 : List It) (i : Nat), wordsE M i (L ++ L2) = if wordsE M i L = 0 then wordsE M (i + L.length) L2 else wordsE M i L := by
  intro L; induction L with
  | nil => intro L2 i; simp [wordsE]
  | cons x L ih =>
    intro L2 i
    simp only [List.cons_append, wordsE, ih, List.length_cons]
    rw [show i + 1 + L.length = i + (L.length + 1) by omega]
    by_cases h : itE M i x = 0
    · simp [h]
    · simp [h]
theorem wordsE_stop (M : List (List UInt8 × Int)) (L : List It) (k : Nat) (it : It) (h0 : wordsE M 0 (L.take k) = 0) (hk : L[k]? = some it) (he : itE M k it ≠ 0) : wordsE M 0 L = itE M k it := by
  have hlt : k < L.length := by
    rcases Nat.lt_or_ge k L.length with h | h
    · exact h
    · rw [List.getElem?_eq_none h] at hk; cases hk
  have e : L = L.take k ++ (it :: L.drop (k + 1)) := by
    rw [List.getElem?_eq_getElem hlt] at hk
    cases hk
    rw [← List.drop_eq_getElem_cons hlt, List.take_append_drop]
  rw [e, wordsE_append, if_pos h0, List.length_take, Nat.min_eq_left (by omega), Nat.zero_add, wordsE, if_neg he]
theorem words_step (M : List (List UInt8 × Int)) (L : List It) (k : Nat) (it : It) (h0 : wordsE M 0 (L.take k) = 0) (hk : L[k]? = some it) (he : itE M k it = 0) :
    wordsE M 0 (L.take (k + 1)) = 0 ∧ wordsL M 0 (L.take (k + 1)) = wordsL M 0 (L.take k) ++ [itW M k it] := by
  have hlt : k < L.length := by
    rcases Nat.lt_or_ge k L.length with h | h
    · exact h
    · rw [List.getElem?_eq_none h] at hk; cases hk
  have e : L.take (k + 1) = L.take k ++ [it] := by
    rw [List.getElem?_eq_getElem hlt] at hk
    cases hk
    exact List.take_succ_eq_append_getElem hlt
  rw [e, wordsL_snoc, wordsE_append, if_pos h0, List.length_take, Nat.min_eq_left (by omega), Nat.zero_add]
  exact ⟨by simp [wordsE, he], rfl⟩
/-- What Words tells. -/
def WordsOk (w : World) (L : List It) (M : List (List UInt8 × Int)) (e : Ending) (w' : World) : Prop :=
  ∃ v l, e = .returned (.tuple #[v, .int .i64 (wordsE M 0 L)]) ∧ l = (if wordsE M 0 L = 0 then wordsL M 0 L else []) ∧ w'.ownsRow w.heap.size 23 1 v l.length (u32s l) ∧ Below w.heap.size w w'
theorem WordsOk.stop {w wr : World} {L : List It} {M : List (List UInt8 × Int)} {k : Nat} {it : It} {e : Int} (h0 : wordsE M 0 (L.take k) = 0) (hk : L[k]? = some it) (he : itE M k it = e) (hne : e ≠ 0) (hb : Below w.heap.size w wr) :
    WordsOk w L M (.returned (.tuple #[.slice none 0 0, .int .i64 e])) wr := by
  have h := wordsE_stop M L k it h0 hk (by rw [he]; exact hne)
  rw [he] at h
  exact ⟨_, [], by rw [h], by rw [h, if_neg hne], World.ownsRow_nil _ _ _ _, hb⟩
theorem infou : (Tryz.prog.info? 23).map (fun i => (i.zero, i.size, i.bytes)) = some (some (.int .u32 0), 1, 4) := by kernel_rfl
theorem awords_none (w : World) (a : Value) (hn : Calls Tryz.prog 128 #[a] w fun e w' => e = .returned (.bool true) ∧ w = w') :
    Calls Tryz.prog 56 #[a] w fun e w' => e = .returned (.tuple #[.slice none 0 0, .int .i64 1]) ∧ w = w' := by
  go_enter Tryz.func56, Tryz.ntmps56
  go_wp2_with fail
  refine hn.mono ?_
  rintro e w' ⟨rfl, rfl⟩
  go_wp2_with fail
  go_ret2
  exact ⟨rfl, rfl⟩
theorem _root_.Go.World.ownsRow.kept_below {a b : World} {B : Nat} {e : TypeId} {size n : Nat} {v : Value} {xs : List Value} (h : a.ownsRow B e size v n xs) (o : Below a.heap.size a b) (_ : B ≤ a.heap.size) : b.ownsRow B e size v n xs := by
  refine ⟨h.1, ?_⟩
  rcases h.2 with h | ⟨g, cap, cur, e1, e2, e3, e4⟩
  · exact .inl h
  · exact .inr ⟨g, cap, cur, e1, e2, (o.block g (lt_of_block e3)).trans e3, e4⟩
theorem farE_cases (x : Ix) (d : Int) : farE x d = 0 ∨ farE x d = 50 := by unfold farE; split <;> simp
set_option maxRecDepth 100000 in
set_option maxHeartbeats 2000000 in
theorem awords_any (w : World) (ht : Tab w) (p m : Nat) (sv : Value) (K : Nat → Prop) (L : List It) (M : List (List UInt8 × Int)) (h : AsmAt w p sv m K L M) (hL : L.length < 4294967296) (hM : ∀ nm t, look M nm = some t → 0 ≤ t ∧ t < 4294967296) :
    Calls Tryz.prog 56 #[.pointer (some ⟨p, 0, none⟩)] w (WordsOk w L M) := by
  obtain ⟨c0, c1, f0, f1⟩ := h.cells
  have HN := ahid (anone_made w p m c1)
  obtain ⟨i0, hi, hz0, hz1, hz2⟩ := info_parts infou
  have HII := ahid (And.intro hi (And.intro hz0 (And.intro hz1 hz2)))
  clear hi hz0 hz1 hz2
  have HM := ahid hM
  have HT := ahid ht
  have H := ahid h
  clear ht hM h c1 f0 f1
  obtain ⟨vs, hown, hlen, hvs⟩ := H.out.row
  have HV := ahid (And.intro hlen hvs)
  clear hlen hvs
  rcases hown.2 with ⟨rfl, hl0⟩ | ⟨g, cap, cur, rfl, _, hcur, hcap1, hcap2, hsz, htk⟩
  · obtain rfl : L = [] := List.eq_nil_of_length_eq_zero hl0
    clear hown hl0
    go_enter Tryz.func56, Tryz.ntmps56
    go_wp2_with fail
    refine HN.out.mono ?_
    rintro e w' ⟨rfl, rfl⟩
    go_wp2_with fail
    refine wp_loop_rounds 1 ?_
    rw [rounds_succ]
    go_wp2_with fail
    go_ret2
    exact ⟨_, [], rfl, rfl, World.ownsRow_nil _ _ _ _, Below.refl _ _⟩
  · have hcell := hown.cells rfl
    have HC := ahid hcell
    clear hcell hcur hsz htk hown
    have HZ := ahid (World.ownsRow_nil w w.heap.size 23 1)
    unfold maxLen at hcap2
    go_enter Tryz.func56, Tryz.ntmps56
    go_wp2_with fail
    refine HN.out.mono ?_
    rintro e w' ⟨rfl, rfl⟩
    go_wp2_with fail
    go_loopw [4, 16] (fun v4 i wr => ∃ (k : Nat) (ov : Value), k ≤ L.length ∧ i = .int .i64 k ∧ ov = v4 ∧ wordsE M 0 (L.take k) = 0 ∧ wr.ownsRow w.heap.size 23 1 ov k (u32s (wordsL M 0 (L.take k))) ∧ Below w.heap.size w wr) (fun _ i _ => L.length - (intOf i).toNat)
    case atStart => exact ⟨0, _, Nat.zero_le _, rfl, rfl, rfl, HZ.out, Below.refl _ _⟩
    case round =>
      obtain ⟨k, ov, hk, rfl, rfl, hz, hrow, hbel⟩ := hrel
      have HR := ahid (And.intro hz (And.intro hrow hbel))
      clear hz hrow hbel
      by_cases hlt : k < L.length
      · obtain ⟨it, hit⟩ : ∃ it, L[k]? = some it := ⟨_, List.getElem?_eq_getElem hlt⟩
        obtain ⟨u, hu⟩ : ∃ u, vs[k]? = some u := ⟨_, List.getElem?_eq_getElem (by rw [HV.out.1]; exact hlt)⟩
        have hclo := HV.out.2 k u it hu hit
        have hcu := HC.out k u hu
        rw [addr_add0] at hcu
        have hA := H.out.keep (Only.of_below (S := fun _ => False) HR.out.2.2) (fun _ _ h => h) (fun _ _ h => h)
        have cu : wr.cell? ⟨g, k, none⟩ = some u := (HR.out.2.2.cell (p := ⟨g, k, none⟩) (World.block_lt_of_cell? _ _ hcu)).trans hcu
        have hclo2 := hclo.keep (Only.of_below (S := fun _ => False) HR.out.2.2) (fun _ _ h => h) (fun _ _ h => h)
        obtain ⟨_, c1, _, _⟩ := hA.cells
        have HK := ahid hit
        have HCL := ahid hclo2
        have HA := ahid hA
        have hkL : (k : Int) < L.length := by omega
        clear hit hu hclo hcu hclo2 hA
        have hown2 := HR.out.2.1
        cases it with
        | put x =>
          obtain ⟨c, rfl, hKc, hcc⟩ := HCL.out
          have HCC := ahid (fun mv => aput1_any wr K _ x ⟨c, rfl, hKc, hcc⟩ k mv c rfl hcc)
          have HE := ahid (show itE M k (.put x) = 0 from rfl)
          have HWD := ahid (show itW M k (.put x) = encS x from rfl)
          have HB3 := ahid HR.out.2.2
          clear hKc hcc HCL
          generalize encS x = q at HCC HWD
          go_wp2_with fail
          refine (HCC.out _).mono ?_
          rintro e w' ⟨rfl, rfl⟩
          have hi := HII.out.1
          go_wp2_with (first | (at_builtin; refine wpList_append_own _ rfl _ _ 30 rfl w.heap.size 23 i0 (.int .u32 0) 1 4 Tryz.underlying30 hi HII.out.2.1 HII.out.2.2.1 HII.out.2.2.2 rfl (by decide) _ k (u32s (wordsL M 0 (L.take k))) rfl (hown2.alloc _) ⟨wr.heap.size, 0, none⟩ 1 1 [.int .u32 q] rfl rfl (cell_one_new _ _ _) (by simp [Value.oneCell']) (by unfold maxLen; omega) (by omega) ((HB3.out.alloc HB3.out.size _).size) ?_; intro v' w3 hown3 hgrow3 hnil3))
          obtain ⟨hz3, hl3⟩ := words_step M L k _ HR.out.1 HK.out HE.out
          have hb3 := (HB3.out.alloc HB3.out.size _).grown hgrow3 (by simp; have := HB3.out.size; omega) (fun i hi => (HR.out.2.1.lt i hi).1)
          have hr3 : w3.ownsRow w.heap.size 23 1 v' (k + 1) (u32s (wordsL M 0 (L.take (k + 1)))) := by rw [hl3, HWD.out]; simpa [u32s] using hown3
          clear hl3
          go_roundw
          case rel => exact ⟨k + 1, v', by omega, by go_num, rfl, hz3, hr3, hb3⟩
          case measure => simp [intOf]; omega
        | far x nm =>
          obtain ⟨c, d, rfl, hKc, hKd, hcn, hcx, hnm, hbd⟩ := HCL.out
          cases hlk : look M nm.data.toList with
          | none =>
            have HCC := ahid (afar1_lost wr p m _ K L M HA.out k nm hnm c d hcn hlk)
            have HE := ahid (show itE M k (.far x nm) = 7 by simp only [itE, hlk])
            clear hKc hKd hcn hcx hnm hbd hlk HCL hown2
            go_wp2_with fail
            refine HCC.out.mono ?_
            rintro e w' ⟨rfl, rfl⟩
            go_wp2_with fail
            go_ret2
            exact WordsOk.stop HR.out.1 HK.out HE.out (by decide) HR.out.2.2
          | some t =>
            have htb := HM.out _ _ hlk
            have HCC := ahid (afar1_there wr (HT.out.keep HR.out.2.2) p m _ K L M HA.out k nm hnm c d hcn x hbd hcx t hlk (by omega))
            have HE0 := ahid (show itE M k (.far x nm) = farE x (t - k) by simp only [itE, hlk])
            have HWD := ahid (show itW M k (.far x nm) = farW x (t - k) by simp only [itW, hlk])
            have hfe := farE_cases x (t - k)
            clear hKc hKd hcn hcx hnm hbd hlk HCL htb hown2
            generalize farW x (t - k) = q at HCC HWD
            generalize farE x (t - k) = ee at HCC HE0 hfe
            rcases hfe with rfl | rfl
            · have HE := HE0
              go_wp2_with fail
              refine HCC.out.mono ?_
              rintro e w4 ⟨rfl, hb4⟩
              have hown2 := HR.out.2.1.kept_below hb4 HR.out.2.2.size
              have HB3 := ahid (HR.out.2.2.trans (hb4.mono HR.out.2.2.size))
              clear hb4
              have hi := HII.out.1
              go_wp2_with (first | (at_builtin; refine wpList_append_own _ rfl _ _ 30 rfl w.heap.size 23 i0 (.int .u32 0) 1 4 Tryz.underlying30 hi HII.out.2.1 HII.out.2.2.1 HII.out.2.2.2 rfl (by decide) _ k (u32s (wordsL M 0 (L.take k))) rfl (hown2.alloc _) ⟨w4.heap.size, 0, none⟩ 1 1 [.int .u32 q] rfl rfl (cell_one_new _ _ _) (by simp [Value.oneCell']) (by unfold maxLen; omega) (by omega) ((HB3.out.alloc HB3.out.size _).size) ?_; intro v' w3 hown3 hgrow3 hnil3))
              obtain ⟨hz3, hl3⟩ := words_step M L k _ HR.out.1 HK.out HE.out
              have hb3 := (HB3.out.alloc HB3.out.size _).grown hgrow3 (by simp; have := HB3.out.size; omega) (fun i hi => (HR.out.2.1.lt i hi).1)
              have hr3 : w3.ownsRow w.heap.size 23 1 v' (k + 1) (u32s (wordsL M 0 (L.take (k + 1)))) := by rw [hl3, HWD.out]; simpa [u32s] using hown3
              clear hl3
              go_roundw
              case rel => exact ⟨k + 1, v', by omega, by go_num, rfl, hz3, hr3, hb3⟩
              case measure => simp [intOf]; omega
            · go_wp2_with fail
              refine HCC.out.mono ?_
              rintro e w4 ⟨rfl, hb4⟩
              have HB4 := ahid hb4
              clear hb4
              go_wp2_with fail
              go_ret2
              exact WordsOk.stop HR.out.1 HK.out HE0.out (by decide) (HR.out.2.2.trans (HB4.out.mono HR.out.2.2.size))
      · obtain rfl : k = L.length := by omega
        have hkL : ¬ ((L.length : Int) < L.length) := by omega
        go_wp2_with fail
        go_ret2
        have hz := HR.out.1
        have hr := HR.out.2.1
        rw [List.take_length] at hz hr
        exact ⟨ov, wordsL M 0 L, by rw [hz]; rfl, by rw [hz, if_pos rfl], by rw [wordsL_len]; exact hr, HR.out.2.2⟩
end Go.Proofs.YtkejnhleajfcjaaGreatDoor
/- Walks of the package asm: far whatever it is given; Jump, Call. -/
namespace Go.Proofs.YtkejnhleajfcjaaGreatDoor
open Go.RowKit Go.Maps
set_option linter.unusedVariables false
set_option linter.unusedSimpArgs false
/-- What far leaves. -/
def FarOk (w : World) (p : Nat) (sv : Value) (m : Nat) (K : Nat → Prop) (L : List It) (M : List (List UInt8 × Int)) (x : Ix) (nm : ByteArray) (e : Ending) (w' : World) : Prop :=
  if mayP x then e = .returned (.int .i64 0) ∧ AddOk w p sv m K L M [.far x nm] w' else e = .returned (.int .i64 2) ∧ Below w.heap.size w w'
set_option maxRecDepth 100000 in
set_option maxHeartbeats 1000000 in
theorem afar_any (w : World) (ht : Tab w) (p m : Nat) (sv : Value) (K : Nat → Prop) (L : List It) (M : List (List UInt8 × Int)) (h : AsmAt w p sv m K L M) (x : Ix) (hx : x.bd) (nm : ByteArray) (hs : nm.size ≤ maxLen) (hL : L.length < 4294967296) :
    Calls Tryz.prog 269 #[.pointer (some ⟨p, 0, none⟩), x.agg, .string nm] w (FarOk w p sv m K L M x nm) := by
  by_cases hm : mayP x
  · exact (afar_put w ht p m sv K L M h x hx hm nm hs hL).mono fun e w' hh => by unfold FarOk; rw [if_pos hm]; exact hh
  · have hE := fun W hW => encode_any x hx W hW
    rw [show encE x = 2 from if_neg hm] at hE
    have hfin : ∀ w', Below w.heap.size w w' → FarOk w p sv m K L M x nm (.returned (.int .i64 2)) w' := fun w' hb => by unfold FarOk; rw [if_neg hm]; exact ⟨rfl, hb⟩
    have HF := ahid hfin
    have HE := ahid hE
    have H := ahid h
    have HT := ahid ht
    clear h ht hfin hE hx hm hs
    obtain ⟨op, rd, rs1, rs2, is, imm⟩ := x
    go_enter Tryz.func269, Tryz.ntmps269
    go_wp2_with fail
    have hb1 : Below w.heap.size w ((w.alloc (.cells #[.int .u8 op, .int .u8 rd, .int .u8 rs1, .int .u8 rs2, .bool is, .int .i32 imm] 108)).alloc (.cells #[.string nm] 9)) := ((Below.refl _ _).alloc (Nat.le_refl _) _).alloc (by simp) _
    have d0 : ∀ (i : Nat) (u : Value), (Ix.mk op rd rs1 rs2 is imm).agg.cells[i]? = some u → ((w.alloc (.cells #[.int .u8 op, .int .u8 rd, .int .u8 rs1, .int .u8 rs2, .bool is, .int .i32 imm] 108)).alloc (.cells #[.string nm] 9)).cell? ⟨w.heap.size, i, none⟩ = some u := fun i u hu => by
      refine Lib.cell?_alloc_some _ ?_
      simp only [World.cell?, (MapKept.heap_alloc w _).1]
      simpa [Value.cells] using hu
    generalize (w.alloc (.cells #[.int .u8 op, .int .u8 rd, .int .u8 rs1, .int .u8 rs2, .bool is, .int .i32 imm] 108)).alloc (.cells #[.string nm] 9) = w1 at *
    have HA1 := ahid (H.out.keep (Only.of_below (S := fun _ => False) hb1) (fun _ _ h => h) (fun _ _ h => h))
    have HT1 := ahid (HT.out.keep hb1)
    have HB1 := ahid hb1
    clear hb1
    obtain ⟨_, c1, _, _⟩ := HA1.out.cells
    have e0 := d0 0 _ rfl
    have e1 := d0 1 _ rfl
    have e2 := d0 2 _ rfl
    have e3 := d0 3 _ rfl
    have e4 := d0 4 _ rfl
    have e5 := d0 5 _ rfl
    clear d0
    refine (anone_made w1 p m c1).mono ?_
    rintro e w' ⟨rfl, rfl⟩
    go_wp2_with fail
    refine (HE.out _ HT1.out).mono ?_
    rintro e w2 ⟨rfl, bl⟩
    have HB2 := ahid (HB1.out.trans (bl.mono HB1.out.size))
    clear bl
    go_wp2_with fail
    go_ret
    exact HF.out _ HB2.out
theorem jump_bd {c : Int} (h0 : 0 ≤ c) (h1 : c < 256) : (Ix.mk 17 c 0 0 true 0).bd := by unfold Ix.bd; simp only; omega
theorem call_bd : (Ix.mk 18 0 0 0 true 0).bd := by unfold Ix.bd; simp only; omega
theorem jump_may {c : Int} (h0 : 0 ≤ c) : mayP (Ix.mk 17 c 0 0 true 0) ↔ c ≤ 6 := by
  have hk : kindS 17 = 4 := by decide
  unfold mayP okS
  simp only [hk]
  constructor
  · intro h; have := h.2.2.2; simp at this; exact this
  · intro h; refine ⟨by omega, by omega, by omega, ?_⟩; simp; exact h
theorem call_may : mayP (Ix.mk 18 0 0 0 true 0) := by decide
set_option maxRecDepth 100000 in
theorem ajump_any (w : World) (ht : Tab w) (p m : Nat) (sv : Value) (K : Nat → Prop) (L : List It) (M : List (List UInt8 × Int)) (h : AsmAt w p sv m K L M) (c : Int) (hc0 : 0 ≤ c) (hc1 : c < 256) (nm : ByteArray) (hs : nm.size ≤ maxLen) (hL : L.length < 4294967296) :
    Calls Tryz.prog 214 #[.pointer (some ⟨p, 0, none⟩), .int .u8 c, .string nm] w (FarOk w p sv m K L M ⟨17, c, 0, 0, true, 0⟩ nm) := by
  have HC := ahid (afar_any w ht p m sv K L M h ⟨17, c, 0, 0, true, 0⟩ (jump_bd hc0 hc1) nm hs hL)
  clear h ht hs hL hc0 hc1
  go_enter Tryz.func214, Tryz.ntmps214
  go_wp2_with fail
  refine HC.out.mono ?_
  intro e w' hh
  have : e = .returned (.int .i64 (if mayP ⟨17, c, 0, 0, true, 0⟩ then 0 else 2)) := by unfold FarOk at hh; split at hh <;> simp_all
  subst this
  have HH := ahid hh
  clear hh
  generalize (if mayP ⟨17, c, 0, 0, true, 0⟩ then (0 : Int) else 2) = q at *
  go_wp2_with fail
  go_ret
  exact HH.out
theorem ajump_none (w : World) (a : Value) (c : Int) (nm : ByteArray) (hn : ∀ W, Below w.heap.size w W → Calls Tryz.prog 128 #[a] W fun e w' => e = .returned (.bool true) ∧ W = w') :
    Calls Tryz.prog 214 #[a, .int .u8 c, .string nm] w fun e w' => e = .returned (.int .i64 1) ∧ Below w.heap.size w w' := by
  have HC := ahid (afar_none w a ⟨17, c, 0, 0, true, 0⟩ nm hn)
  clear hn
  go_enter Tryz.func214, Tryz.ntmps214
  go_wp2_with fail
  refine HC.out.mono ?_
  rintro e w' ⟨rfl, hb⟩
  have HB := ahid hb
  clear hb
  go_wp2_with fail
  go_ret
  exact ⟨rfl, HB.out⟩
end Go.Proofs.YtkejnhleajfcjaaGreatDoor
/- Walks of the package asm: Const. -/
namespace Go.Proofs.YtkejnhleajfcjaaGreatDoor
open Go.RowKit Go.Maps
set_option linter.unusedVariables false
set_option linter.unusedSimpArgs false
/-- A constant's instructions. -/
def partsS (rd w : Int) : List Ix :=
  if -16384 ≤ sgn w 2147483648 ∧ sgn w 2147483648 < 16384 then [⟨1, rd, 0, 0, true, sgn w 2147483648⟩]
  else if w % 2048 = 0 then [⟨15, rd, 0, 0, true, w / 2048⟩] else [⟨15, rd, 0, 0, true, w / 2048⟩, ⟨7, rd, rd, 0, true, w % 2048⟩]
theorem sgn32 {w : Int} (h0 : 0 ≤ w) (h1 : w < 4294967296) : wrap32 w = sgn w 2147483648 := by unfold wrap32 sgn; split <;> omega
theorem parts_bd {rd w : Int} (r0 : 0 ≤ rd) (r1 : rd < 256) (h0 : 0 ≤ w) (h1 : w < 4294967296) : ∀ x ∈ partsS rd w, x.bd := by
  unfold partsS
  intro x hx
  split at hx
  · simp only [List.mem_cons, List.not_mem_nil, or_false] at hx
    subst hx; unfold Ix.bd; simp only; omega
  · split at hx
    · simp only [List.mem_cons, List.not_mem_nil, or_false] at hx
      subst hx; unfold Ix.bd; simp only; omega
    · simp only [List.mem_cons, List.not_mem_nil, or_false] at hx
      rcases hx with rfl | rfl <;> (unfold Ix.bd; simp only; omega)
theorem parts_len (rd w : Int) : (partsS rd w).length ≤ 2 := by
  unfold partsS; split
  · simp
  · split <;> simp
/-- An instruction's cells. -/
def Ix.cells (x : Ix) : List Value := [.int .u8 x.op, .int .u8 x.rd, .int .u8 x.rs1, .int .u8 x.rs2, .bool x.is, .int .i32 x.imm]
theorem Ix.cells_len (x : Ix) : x.cells.length = 6 := rfl
theorem InsAt.of_cells {w : World} {b o : Nat} {x : Ix} (hx : x.bd) (h : ∀ j u, x.cells[j]? = some u → w.cell? ⟨b, o + j, none⟩ = some u) : InsAt w b o x :=
  ⟨h 0 _ rfl, h 1 _ rfl, h 2 _ rfl, h 3 _ rfl, h 4 _ rfl, h 5 _ rfl, hx⟩
theorem InsIn.of_row {w : World} {p : Nat} {cap : Nat} {l : List Ix} (hb : ∀ x ∈ l, x.bd) (hm : l.length ≤ maxLen) (h : ∀ (j : Nat) u, (l.flatMap Ix.cells)[j]? = some u → w.cell? ⟨p, j, none⟩ = some u) : InsIn w (.slice (some ⟨p, 0, none⟩) l.length cap) l := by
  refine ⟨hm, _, cap, p, 0, rfl, fun _ => rfl, fun k x hx => InsAt.of_cells (hb x (List.mem_of_getElem? hx)) fun j u hu => ?_⟩
  rw [Nat.zero_add]
  refine h _ _ ?_
  have hj : j < 6 := by
    rcases Nat.lt_or_ge j 6 with h | h
    · exact h
    · rw [List.getElem?_eq_none (by rw [Ix.cells_len]; exact h)] at hu; cases hu
  rw [flat_get Ix.cells 6 Ix.cells_len l k j x hx hj]; exact hu
theorem InsIn.of_own {w : World} {B : Nat} {v : Value} {l : List Ix} (hb : ∀ x ∈ l, x.bd) (hm : l.length ≤ maxLen) (h : w.ownsRow B 108 6 v l.length (l.flatMap Ix.cells)) : InsIn w v l := by
  rcases h.2 with ⟨rfl, h0⟩ | ⟨g, cap, cur, rfl, _⟩
  · refine ⟨hm, none, 0, 0, 0, by rw [h0], fun hh => by omega, fun k x hx => ?_⟩
    rw [List.eq_nil_of_length_eq_zero h0] at hx; simp at hx
  · refine InsIn.of_row hb hm fun j u hu => ?_
    have := h.cells rfl j u hu
    rw [addr_add0] at this
    exact this
theorem PutOk.ending {w w' : World} {p m : Nat} {sv : Value} {K : Nat → Prop} {L : List It} {M : List (List UInt8 × Int)} {l : List Ix} {e : Ending} (h : PutOk w p sv m K L M l e w') : ∃ q, e = .returned (.int .i64 q) := by
  unfold PutOk at h; split at h
  · exact ⟨_, h.1⟩
  · exact ⟨_, h.1⟩
theorem PutOk.of_below {w w1 w' : World} {p m : Nat} {sv : Value} {K : Nat → Prop} {L : List It} {M : List (List UInt8 × Int)} {l : List Ix} {e : Ending} (hb : Below w.heap.size w w1) (h : PutOk w1 p sv m K L M l e w') : PutOk w p sv m K L M l e w' := by
  unfold PutOk at h ⊢
  split at h
  · rw [if_pos ‹_›]; exact ⟨h.1, h.2.of_below hb⟩
  · rw [if_neg ‹_›]; exact ⟨h.1, hb.trans (h.2.mono hb.size)⟩
theorem InsIn.one {x : Ix} (hb : ∀ y ∈ [x], y.bd) (w : World) : InsIn (w.alloc (.cells #[.int .u8 x.op, .int .u8 x.rd, .int .u8 x.rs1, .int .u8 x.rs2, .bool x.is, .int .i32 x.imm] 108)) (.slice (some ⟨w.heap.size, 0, none⟩) 1 1) [x] :=
  InsIn.of_row (l := [x]) hb (by simp [maxLen]) fun j u hu => by
    simp only [World.cell?, (MapKept.heap_alloc w _).1]
    simpa [Ix.cells] using hu
theorem infoi : (Tryz.prog.info? 108).map (fun i => (i.zero, i.size, i.bytes)) = some (some (.agg #[.int .u8 0, .int .u8 0, .int .u8 0, .int .u8 0, .bool false, .int .i32 0]), 6, 12) := by kernel_rfl
set_option maxRecDepth 100000 in
set_option maxHeartbeats 1000000 in
theorem aconst_gen (w : World) (a : Value) (rd n : Int) (r0 : 0 ≤ rd) (r1 : rd < 256) (h0 : 0 ≤ n) (h1 : n < 4294967296) (Q : Ending → World → Prop)
    (hQ : ∀ (w1 : World), Below w.heap.size w w1 → ∀ (v : Value), InsIn w1 v (partsS rd n) → Calls Tryz.prog 54 #[a, v] w1 (fun e w' => (∃ q, e = .returned (.int .i64 q)) ∧ Q e w')) :
    Calls Tryz.prog 268 #[a, .int .u8 rd, .int .u32 n] w Q := by
  have hbd := parts_bd r0 r1 h0 h1
  have hsg := sgn32 h0 h1
  have HA := ahid hQ
  clear hQ
  by_cases hs : -16384 ≤ sgn n 2147483648 ∧ sgn n 2147483648 < 16384
  · have hp : partsS rd n = [⟨1, rd, 0, 0, true, sgn n 2147483648⟩] := if_pos hs
    rw [hp] at HA hbd
    have t1 := hs.1
    have t2 := hs.2
    rw [← hsg] at HA hbd t1 t2
    have HB := ahid hbd
    clear hbd hs hp hsg
    go_enter Tryz.func268, Tryz.ntmps268
    go_wp2_with fail
    refine (HA.out _ ((Below.refl _ _).alloc (Nat.le_refl _) _) _ (InsIn.one HB.out w)).mono ?_
    rintro e w' ⟨hx, hh⟩
    obtain ⟨q, rfl⟩ := hx
    have HH := ahid hh
    clear hh
    go_wp2_with fail
    exact HH.out
  · have hand : bits .and .u32 n 2047 = n % 2048 := and_mod 11 2047 (by omega) (by decide) h0 h1
    by_cases hz : n % 2048 = 0
    · have hp : partsS rd n = [⟨15, rd, 0, 0, true, n / 2048⟩] := by unfold partsS; rw [if_neg hs, if_pos hz]
      rw [hp] at HA hbd
      rw [hz] at hand
      rw [← hsg] at hs
      have HB := ahid hbd
      clear hbd hp hsg hz
      by_cases t1 : -16384 ≤ wrap32 n
      · have t2 : ¬ (wrap32 n < 16384) := fun h => hs ⟨t1, h⟩
        clear hs
        go_enter Tryz.func268, Tryz.ntmps268
        go_wp2_with fail
        refine (HA.out _ ((Below.refl _ _).alloc (Nat.le_refl _) _) _ (InsIn.one HB.out w)).mono ?_
        rintro e w' ⟨hx, hh⟩
        obtain ⟨q, rfl⟩ := hx
        have HH := ahid hh
        clear hh
        go_wp2_with fail
        exact HH.out
      · clear hs
        go_enter Tryz.func268, Tryz.ntmps268
        go_wp2_with fail
        refine (HA.out _ ((Below.refl _ _).alloc (Nat.le_refl _) _) _ (InsIn.one HB.out w)).mono ?_
        rintro e w' ⟨hx, hh⟩
        obtain ⟨q, rfl⟩ := hx
        have HH := ahid hh
        clear hh
        go_wp2_with fail
        exact HH.out
    · have hp : partsS rd n = [⟨15, rd, 0, 0, true, n / 2048⟩, ⟨7, rd, rd, 0, true, n % 2048⟩] := by unfold partsS; rw [if_neg hs, if_neg hz]
      rw [hp] at HA hbd
      rw [← hsg] at hs
      have HB := ahid hbd
      have hm0 : 0 < n % 2048 := by omega
      have hm1 : n % 2048 < 2048 := by omega
      have hq : wrap32 (n % 2048) = n % 2048 := by unfold wrap32; omega
      clear hbd hp hsg hz
      generalize n % 2048 = r at *
      obtain ⟨i0, hi, hz0, hz1, hz2⟩ := info_parts infoi
      have hown := own_new w w.heap.size #[.int .u8 15, .int .u8 rd, .int .u8 0, .int .u8 0, .bool true, .int .i32 (n / 2048)] 108 1 6 rfl (by simp [maxLen]) (Nat.le_refl _)
      have hcn := cells_new (w.alloc (.cells #[.int .u8 15, .int .u8 rd, .int .u8 0, .int .u8 0, .bool true, .int .i32 (n / 2048)] 108)) #[.int .u8 7, .int .u8 rd, .int .u8 rd, .int .u8 0, .bool true, .int .i32 r] 108
      rw [show (w.alloc (.cells #[.int .u8 15, .int .u8 rd, .int .u8 0, .int .u8 0, .bool true, .int .i32 (n / 2048)] 108)).heap.size = w.heap.size + 1 by simp] at hcn
      have HO := ahid (And.intro hown hcn)
      clear hown hcn
      have hfin : ∀ v' w3, w3.ownsRow w.heap.size 108 6 v' 2 ([Value.int .u8 15, .int .u8 rd, .int .u8 0, .int .u8 0, .bool true, .int .i32 (n / 2048)] ++ [.int .u8 7, .int .u8 rd, .int .u8 rd, .int .u8 0, .bool true, .int .i32 r]) → ((w.alloc (.cells #[.int .u8 15, .int .u8 rd, .int .u8 0, .int .u8 0, .bool true, .int .i32 (n / 2048)] 108)).alloc (.cells #[.int .u8 7, .int .u8 rd, .int .u8 rd, .int .u8 0, .bool true, .int .i32 r] 108)).grownBy w3 (some w.heap.size) →
          Below w.heap.size w w3 ∧ InsIn w3 v' [⟨15, rd, 0, 0, true, n / 2048⟩, ⟨7, rd, rd, 0, true, r⟩] := fun v' w3 ho hg =>
        ⟨(((Below.refl _ w).alloc (Nat.le_refl _) _).alloc (by simp) _).grown hg (by simp; omega) (fun k hk => by cases hk; exact Nat.le_refl _), InsIn.of_own (B := w.heap.size) HB.out (by simp [maxLen]) ho⟩
      have HF := ahid hfin
      clear hfin
      by_cases t1 : -16384 ≤ wrap32 n
      all_goals
        first | (have t2 : ¬ (wrap32 n < 16384) := fun h => hs ⟨t1, h⟩) | skip
        clear hs
        go_enter Tryz.func268, Tryz.ntmps268
        go_wp2_with (first | (at_builtin; refine wpList_append_own _ rfl _ _ 168 rfl w.heap.size 108 i0 _ 6 12 Tryz.underlying168 hi hz0 hz1 hz2 rfl (by decide) (.slice (some ⟨w.heap.size, 0, none⟩) 1 1) 1 _ rfl (HO.out.1.alloc _) ⟨w.heap.size + 1, 0, none⟩ 1 1 [.int .u8 7, .int .u8 rd, .int .u8 rd, .int .u8 0, .bool true, .int .i32 r] rfl rfl HO.out.2 (by simp [Value.oneCell']) (by simp [maxLen]) (by omega) (by simp; omega) ?_; intro v' w3 hown3 hgrow3 hnil3))
        obtain ⟨hb3, hv3⟩ := HF.out v' w3 hown3 hgrow3
        have HB3 := ahid hb3
        refine (HA.out _ hb3 _ hv3).mono ?_
        clear hown3 hgrow3 hnil3 hb3 hv3
        rintro e w' ⟨hx, hh⟩
        obtain ⟨q, rfl⟩ := hx
        have HH := ahid hh
        clear hh
        go_wp2_with fail
        exact HH.out
theorem aconst_any (w : World) (ht : Tab w) (p m : Nat) (sv : Value) (K : Nat → Prop) (L : List It) (M : List (List UInt8 × Int)) (h : AsmAt w p sv m K L M) (rd n : Int) (r0 : 0 ≤ rd) (r1 : rd < 256) (h0 : 0 ≤ n) (h1 : n < 4294967296) (hL : L.length + 2 < 4294967296) :
    Calls Tryz.prog 268 #[.pointer (some ⟨p, 0, none⟩), .int .u8 rd, .int .u32 n] w (PutOk w p sv m K L M (partsS rd n)) :=
  aconst_gen w _ rd n r0 r1 h0 h1 _ fun w1 hb v hv => (aput_any w1 (ht.keep hb) p m sv K L M (h.keep (Only.of_below (S := fun _ => False) hb) (fun _ _ h => h) (fun _ _ h => h)) v _ hv (by have := parts_len rd n; omega)).mono fun e w' hh => ⟨hh.ending, hh.of_below hb⟩
theorem aconst_none (w : World) (a : Value) (rd n : Int) (r0 : 0 ≤ rd) (r1 : rd < 256) (h0 : 0 ≤ n) (h1 : n < 4294967296) (hn : ∀ W, Below w.heap.size w W → Calls Tryz.prog 128 #[a] W fun e w' => e = .returned (.bool true) ∧ W = w') :
    Calls Tryz.prog 268 #[a, .int .u8 rd, .int .u32 n] w fun e w' => e = .returned (.int .i64 1) ∧ Below w.heap.size w w' :=
  aconst_gen w _ rd n r0 r1 h0 h1 _ fun w1 hb v hv => (aput_none w1 a v (fun W hW => hn W (hb.trans (hW.mono hb.size)))).mono fun e w' hh => ⟨⟨_, hh.1⟩, hh.1, hh.2 ▸ hb⟩
end Go.Proofs.YtkejnhleajfcjaaGreatDoor
/- Walks of the package asm: Copy; the library's clones. -/
namespace Go.Proofs.YtkejnhleajfcjaaGreatDoor
open Go.RowKit Go.Maps
set_option linter.unusedVariables false
set_option linter.unusedSimpArgs false
set_option maxRecDepth 100000 in
theorem acell {W w1 : World} (hb : Below W.heap.size W w1) : (∀ b o, b < W.heap.size → w1.cell? ⟨b, o, none⟩ = W.cell? ⟨b, o, none⟩) ∧ (∀ b o, b < W.heap.size → w1.frozen? ⟨b, o, none⟩ = W.frozen? ⟨b, o, none⟩) :=
  ⟨fun b o h => hb.cell (p := ⟨b, o, none⟩) h, fun b o h => hb.frozen (p := ⟨b, o, none⟩) h⟩
set_option maxRecDepth 100000 in
theorem mclone_any (w : World) (m n : Nat) (D : DataW Unit) (h : w.ownsMap Tryz.prog 9 (plainElem Tryz.prog 3) m n D) :
    Calls Tryz.prog 225 #[.map (some m)] w fun e w' => e = .returned (.map (some w.heap.size)) ∧ w'.ownsMap Tryz.prog 9 (plainElem Tryz.prog 3) w.heap.size n D ∧ Below w.heap.size w w' := by
  obtain ⟨es, cl, hb, F, hz, hD⟩ := h
  have hq := fun w => run_eql_map_nil_sl (P := Tryz.prog) w 215 _ _ (some m) Tryz.underlying215
  have HB := ahid hb
  have HF := ahid (And.intro F (And.intro hz hD))
  clear hb F hz hD
  go_enter Tryz.func225, Tryz.ntmps225
  go_wp2
  rw [run_callFunc_extern Tryz.func272 (by kernel_rfl) (by kernel_rfl) (by kernel_rfl) (e := Extern.MapsClone.clone) (by kernel_rfl), run_maps_clone_sl w 215 HB.out]
  simp only [Result.andThen]
  rw [Oper.upon_value]
  go_wp2
  rw [run_typeAssert_map_sl _ 215 20 _ _ _ Tryz.underlying215]
  simp only [Result.andThen]
  rw [Oper.upon_value]
  go_wp2
  go_ret
  exact ⟨rfl, ⟨es, cl, (MapKept.heap_alloc w _).1, HF.out⟩, (Below.refl _ _).alloc (Nat.le_refl _) _⟩
/-- nil where v is; else a slice. -/
def likeSl (v : Value) (g n cap : Nat) : Value := match v with | .slice none _ _ => .slice none 0 0 | _ => .slice (some ⟨g, 0, none⟩) n cap
set_option maxRecDepth 100000 in
theorem aclone_any (w : World) (sv : Value) (n : Nat) (vs : List Value) (h : w.ownsRow 0 231 1 sv n vs) (h1 : ∀ u ∈ vs, u.oneCell' = true) (hn : n < 4294967296) :
    Calls Tryz.prog 224 #[sv] w fun e w' => ∃ g' cap', e = .returned (likeSl sv g' n cap') ∧ w'.ownsRow w.heap.size 231 1 (likeSl sv g' n cap') n vs ∧ Below w.heap.size w w' := by
  obtain ⟨i0, hi, hz0, hz1, hz2⟩ := info_parts infow
  rcases h.2 with ⟨rfl, hl0⟩ | ⟨g, cap, cur, rfl, hrest⟩
  · have q22 : ∀ (w : World) (a : Option Addr) (n c n' c' : Nat), (binOp .eql 216 (.slice a n c) (.slice none n' c')).run Tryz.prog w = .ok (.bool a.isNone) w := fun w a n c n' c' => Lib.run_eql_slice_nil w _ _ a n c n' c' Tryz.underlying216
    obtain rfl : vs = [] := List.eq_nil_of_length_eq_zero (by rw [h.1, hl0])
    subst hl0
    clear h h1
    have HZ := ahid (World.ownsRow_nil w w.heap.size 231 1)
    go_enter Tryz.func224, Tryz.ntmps224
    go_wp2
    go_ret
    exact ⟨0, 0, rfl, HZ.out, Below.refl _ _⟩
  · have q22 : ∀ (w : World) (a : Option Addr) (n c n' c' : Nat), (binOp .eql 216 (.slice a n c) (.slice none n' c')).run Tryz.prog w = .ok (.bool a.isNone) w := fun w a n c n' c' => Lib.run_eql_slice_nil w _ _ a n c n' c' Tryz.underlying216
    have hc := h.cells rfl
    have hl := h.1
    have HC := ahid (And.intro hc (And.intro hl h1))
    clear hc hl h1 h hrest
    go_enter Tryz.func224, Tryz.ntmps224
    go_wp2_with (at_builtin; refine wpList_append_own _ rfl _ _ 216 rfl w.heap.size 231 i0 _ 1 8 Tryz.underlying216 hi hz0 hz1 hz2 rfl (by decide) (.slice (some ⟨w.heap.size, 0, none⟩) 0 0) _ _ rfl (World.ownsRow_made w #[] 0 (Nat.le_refl _) (Nat.zero_le _) (by simp)) ⟨g, 0, none⟩ n cap vs rfl HC.out.2.1 (fun j u hj => Lib.cell?_alloc_some _ (HC.out.1 j u hj)) HC.out.2.2 (by unfold maxLen; omega) (by omega) (by simp) ?_; intro v' w1 hown hgrow hnil; rw [Nat.zero_add, List.nil_append] at hown)
    go_wp2
    go_ret
    rcases hown.2 with ⟨h, _⟩ | ⟨g', cap', _, rfl, _⟩
    · exact absurd (hnil.1 h).1 (by simp)
    refine ⟨g', cap', rfl, hown, ?_⟩
    exact ((Below.refl _ w).alloc (Nat.le_refl _) _).grown hgrow (by simp) (by intro k hk; simp [Value.ownBlock] at hk; omega)
/-- What Copy leaves. -/
def CopyOk (w : World) (K : Nat → Prop) (L : List It) (M : List (List UInt8 × Int)) (e : Ending) (w' : World) : Prop :=
  ∃ p v m, e = .returned (.pointer (some ⟨p, 0, none⟩)) ∧ (∀ k, Own p v m k → w.heap.size ≤ k) ∧ AsmAt w' p v m (fun k => K k ∧ k < w.heap.size) L M ∧ Below w.heap.size w w'
set_option maxRecDepth 100000 in
theorem AsmAt.copy {w W : World} {m' : Nat} {v' : Value} {K : Nat → Prop} {L : List It} {M : List (List UInt8 × Int)} {vs : List Value} {D : DataW Unit} (hb : Below w.heap.size w W)
    (ho : W.ownsRow w.heap.size 231 1 v' L.length vs) (hlen : vs.length = L.length) (hvs : ∀ (i : Nat) (v : Value) (it : It), vs[i]? = some v → L[i]? = some it → CloAt w K v it)
    (hm : W.ownsMap Tryz.prog 9 (plainElem Tryz.prog 3) m' M.length D) (hD : MarkD D M) (hmz : w.heap.size ≤ m') :
    CopyOk w K L M (.returned (.pointer (some ⟨W.heap.size, 0, none⟩))) (W.alloc (.cells #[v', .map (some m')] 218)) := by
  have hml := hm.lt
  have hvl := ho.lt
  have hbs := hb.size
  have hb2 : Below w.heap.size w (W.alloc (.cells #[v', .map (some m')] 218)) := hb.alloc hbs _
  have hne : v'.ownBlock ≠ some m' := fun e => by
    rcases ho.2 with ⟨rfl, _⟩ | ⟨g, cap, cur, rfl, _, hc, _⟩
    · simp [Value.ownBlock] at e
    · obtain ⟨es, cl, hmb, _⟩ := hm
      simp only [Value.ownBlock, Option.some.injEq] at e
      subst e
      rw [hc] at hmb; cases hmb
  refine ⟨_, v', m', rfl, ?_, ⟨(MapKept.heap_alloc W _).1, ⟨vs, ⟨ho.1, ?_⟩, hlen, ?_⟩, ⟨D, hm.alloc _, hD⟩, ⟨by omega, fun e => by have := (hvl _ e).2; omega, hne⟩, ?_⟩, hb2⟩
  · rintro k (rfl | h | rfl)
    · exact hbs
    · exact (hvl k h).1
    · exact hmz
  · rcases (ho.alloc (.cells #[v', .map (some m')] 218)).2 with h | ⟨g, cap, cur, h1, _, h2⟩
    · exact .inl h
    · exact .inr ⟨g, cap, cur, h1, Nat.zero_le _, h2⟩
  · intro i v it hv hi
    exact (hvs i v it hv hi).keep (Only.of_below (S := fun _ => False) hb2) (fun _ _ h => h) (fun k hk h => ⟨h, hk⟩)
  · intro k hk
    exact ⟨by omega, fun e => by have := (hvl _ e).1; omega, by omega⟩
set_option maxRecDepth 100000 in
theorem acopy_none (w : World) (a : Value) (hn : Calls Tryz.prog 128 #[a] w fun e w' => e = .returned (.bool true) ∧ w = w') :
    Calls Tryz.prog 131 #[a] w fun e w' => e = .returned (.pointer none) ∧ w = w' := by
  go_enter Tryz.func131, Tryz.ntmps131
  go_wp2_with fail
  refine hn.mono ?_
  rintro e w' ⟨rfl, rfl⟩
  go_wp2_with fail
  go_ret
  exact ⟨rfl, rfl⟩
set_option maxRecDepth 100000 in
set_option maxHeartbeats 2000000 in
theorem acopy_any (w : World) (p m : Nat) (sv : Value) (K : Nat → Prop) (L : List It) (M : List (List UInt8 × Int)) (h : AsmAt w p sv m K L M) (hL : L.length < 4294967296) :
    Calls Tryz.prog 131 #[.pointer (some ⟨p, 0, none⟩)] w (CopyOk w K L M) := by
  obtain ⟨c0, c1, f0, f1⟩ := h.cells
  have HN := ahid (anone_made w p m c1)
  obtain ⟨hp, hm, hs⟩ := h.blocks
  obtain ⟨vs, hown, hlen, hvs⟩ := h.row
  obtain ⟨D, hmap, hD⟩ := h.marks
  have h1 : ∀ u ∈ vs, u.oneCell' = true := fun u hu => by
    obtain ⟨i, hi, he⟩ := List.mem_iff_getElem.1 hu
    have hc := hvs i u L[i] (by rw [List.getElem?_eq_getElem hi, he]) (List.getElem?_eq_getElem (by omega))
    cases hit : L[i] with
    | put x => rw [hit] at hc; obtain ⟨c, hc, _⟩ := hc; rw [hc]; simp [Value.oneCell']
    | far x nm => rw [hit] at hc; obtain ⟨c, d, hc, _⟩ := hc; rw [hc]; simp [Value.oneCell']
  have HS := ahid (fun W (hW : Below w.heap.size w W) => (aclone_any W sv L.length vs (hown.keepw (Only.of_below (S := fun _ => False) hW) (fun _ _ h => h)) h1 hL).mono (R' := fun e W' => ∃ g' cap', e = .returned (likeSl sv g' L.length cap') ∧ W'.ownsRow w.heap.size 231 1 (likeSl sv g' L.length cap') L.length vs ∧ W'.cell? ⟨p, 0, none⟩ = some sv ∧ W'.cell? ⟨p, 1, none⟩ = some (.map (some m)) ∧ Below w.heap.size w W' ∧ Below W.heap.size W W')
    fun e W' ⟨g', cap', he, ho, hb⟩ => by
      have hb2 := hW.trans (hb.mono hW.size)
      refine ⟨g', cap', he, ⟨ho.1, ?_⟩, ((acell hb2).1 _ _ hp).trans c0, ((acell hb2).1 _ _ hp).trans c1, hb2, hb⟩
      rcases ho.2 with h | ⟨g, cap, cur, e1, e2, e3⟩
      · exact .inl h
      · exact .inr ⟨g, cap, cur, e1, Nat.le_trans hW.size e2, e3⟩)
  have HM := ahid (fun W (hW : Below w.heap.size w W) => (mclone_any W m M.length D (by
    obtain ⟨es, cl, hb, F, hz, hDD⟩ := hmap
    exact ⟨es, cl, (hW.block m (lt_of_block hb)).trans hb, F, hz, hDD⟩)).mono (R' := fun e W' => ∃ m', e = .returned (.map (some m')) ∧ w.heap.size ≤ m' ∧ W'.ownsMap Tryz.prog 9 (plainElem Tryz.prog 3) m' M.length D ∧ W'.cell? ⟨p, 0, none⟩ = some sv ∧ W'.cell? ⟨p, 1, none⟩ = some (.map (some m)) ∧ Below w.heap.size w W' ∧ Below W.heap.size W W')
    fun e W' ⟨he, ho, hb⟩ => by
      have hb2 := hW.trans (hb.mono hW.size)
      exact ⟨_, he, hW.size, ho, ((acell hb2).1 _ _ hp).trans c0, ((acell hb2).1 _ _ hp).trans c1, hb2, hb⟩)
  have HV := ahid (And.intro hlen (And.intro hvs hD))
  have hsl := h.slice
  clear h f0 f1 hs hown hlen hvs hmap hD h1 hm
  rcases hsl with ⟨rfl, _⟩ | ⟨gs, caps, rfl, _, _⟩
  · simp only [likeSl] at HS
    go_enter Tryz.func131, Tryz.ntmps131
    go_wp2_with fail
    refine HN.out.mono ?_
    rintro e w' ⟨rfl, rfl⟩
    go_wp2_with fail
    have hb0 := Below.refl w.heap.size w
    go_region_held3 (fun w' => w'.cell? ⟨p, 0, none⟩ = some (.slice none 0 0) ∧ w'.cell? ⟨p, 1, none⟩ = some (.map (some m)) ∧ Below w.heap.size w w') (first | exact ⟨c0, c1, hb0.drew⟩ | exact ⟨c0, c1, hb0⟩ | exact ⟨k0, k1, kb⟩ | exact ⟨l0, l1, lb⟩ | exact ⟨Lib.cell?_alloc_some _ l0, Lib.cell?_alloc_some _ l1, lb.alloc lb.size _⟩ | exact hb0.drew | exact kb | exact lb | (go_keep; done))
      (first
      | (go_at_call 224; refine (HS.out _ ?hb).mono ?_; (case hb => first | exact hb0 | exact hb0.drew | assumption | go_grown); rintro e W1 ⟨g1, cap1, rfl, ho1, k0, k1, kb, kk⟩)
      | (go_at_call 225; refine (HM.out _ ?hb).mono ?_; (case hb => first | exact hb0 | exact hb0.drew | assumption | go_grown); rintro e W2 ⟨m2, rfl, hm2, ho2, l0, l1, lb, ll⟩))
    go_wp2_with fail
    go_ret
    exact AsmAt.copy lb (ho1.kept_below ll kb.size) HV.out.1 HV.out.2.1 ho2 HV.out.2.2 hm2
  · simp only [likeSl] at HS
    go_enter Tryz.func131, Tryz.ntmps131
    go_wp2_with fail
    refine HN.out.mono ?_
    rintro e w' ⟨rfl, rfl⟩
    go_wp2_with fail
    have hb0 := Below.refl w.heap.size w
    go_region_held3 (fun w' => w'.cell? ⟨p, 0, none⟩ = some (.slice (some ⟨gs, 0, none⟩) L.length caps) ∧ w'.cell? ⟨p, 1, none⟩ = some (.map (some m)) ∧ Below w.heap.size w w') (first | exact ⟨c0, c1, hb0.drew⟩ | exact ⟨c0, c1, hb0⟩ | exact ⟨k0, k1, kb⟩ | exact ⟨l0, l1, lb⟩ | exact ⟨Lib.cell?_alloc_some _ l0, Lib.cell?_alloc_some _ l1, lb.alloc lb.size _⟩ | exact hb0.drew | exact kb | exact lb | (go_keep; done))
      (first
      | (go_at_call 224; refine (HS.out _ ?hb).mono ?_; (case hb => first | exact hb0 | exact hb0.drew | assumption | go_grown); rintro e W1 ⟨g1, cap1, rfl, ho1, k0, k1, kb, kk⟩)
      | (go_at_call 225; refine (HM.out _ ?hb).mono ?_; (case hb => first | exact hb0 | exact hb0.drew | assumption | go_grown); rintro e W2 ⟨m2, rfl, hm2, ho2, l0, l1, lb, ll⟩))
    go_wp2_with fail
    go_ret
    exact AsmAt.copy lb (ho1.kept_below ll kb.size) HV.out.1 HV.out.2.1 ho2 HV.out.2.2 hm2
end Go.Proofs.YtkejnhleajfcjaaGreatDoor
