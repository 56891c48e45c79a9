/- Several texts in one: PsrRRes, PsrOpen, InstOpen, MachOpen. -/
import Derived.Test.YtajholbcpmjhiaaGreatDoorH27
import Derived.Deep.Slices
set_option linter.unusedVariables false
set_option linter.unusedSimpArgs false
/- The document's Invalid, Resident and Same (muntinref04). -/
namespace Go.Proofs.YtajholbcpmjhiaaGreatDoor
open Go.RowKit
set_option maxRecDepth 100000 in
set_option maxHeartbeats 2000000 in
theorem rinvalid_any (wim nw : Int) (h0 : 0 ≤ wim) (h1 : wim < 4294967296) (w : World) : Calls Tryz.prog 150 #[.int .u32 wim, .int .i64 nw] w fun e w' => e = .returned (.tuple #[.int .i64 (invV wim nw), .int .i64 (invE wim nw)]) ∧ w = w' := by
  have hq := rwindows_any nw
  by_cases hw : winP nw
  · rw [decide_eq_true hw] at hq
    have H1 := phid hq
    have HW := phid hw
    obtain ⟨N, rfl⟩ := Int.eq_ofNat_of_zero_le (show 0 ≤ nw by have := hw.1; omega)
    have hn2 : N ≤ 32 := by have := hw.2; omega
    clear hq hw
    go_enter Tryz.func150, Tryz.ntmps150
    go_wp2_with fail
    refine (H1.out _).mono ?_
    rintro e w' ⟨rfl, rfl⟩
    go_wp2_with fail
    go_loop [6] (fun i => ∃ k : Nat, k ≤ N ∧ i = .int .i64 k ∧ ∀ j : Nat, j < k → wim ≠ 2 ^ j) (fun i => N - (intOf i).toNat)
    case atStart => exact ⟨0, Nat.zero_le _, rfl, fun j hj => by omega⟩
    case round =>
      obtain ⟨k, hk, rfl, hall⟩ := hrel
      by_cases hlt : k < N
      · have hok : okW (k : Int) (N : Int) := ⟨HW.out, by omega, by omega⟩
        have hwm := rwim_any (k : Int) (N : Int)
        rw [show wimV (k : Int) (N : Int) = 2 ^ k from if_pos hok, show okE (k : Int) (N : Int) = 0 from if_pos hok] at hwm
        have HM := phid hwm
        have hkk : (k : Int) < N := by omega
        by_cases he : wim = 2 ^ k
        · have E := phid (show invV wim N = k ∧ invE wim N = 0 from ⟨by unfold invV; rw [if_pos HW.out, inv_some he hkk], by unfold invE; rw [if_pos HW.out, inv_some he hkk]⟩)
          have he2 : ((2 : Int) ^ k == wim) = true := by simpa using he.symm
          clear hwm hall hok he
          generalize (2 : Int) ^ k = p at *
          go_wp2_with fail
          refine (HM.out _).mono ?_
          rintro e w' ⟨rfl, rfl⟩
          go_wp2_with fail
          go_ret2
          exact ⟨pret2 E.out.1.symm E.out.2.symm, rfl⟩
        · have he2 : ((2 : Int) ^ k == wim) = false := by simpa using fun h => he h.symm
          have HA := phid (show ∀ j : Nat, j < k + 1 → wim ≠ 2 ^ j from fun j hj => by
            by_cases hjk : j = k
            · rw [hjk]; exact he
            · exact hall j (by omega))
          clear hwm hall hok he
          generalize (2 : Int) ^ k = p at he2 HM
          go_wp2_with fail
          refine (HM.out _).mono ?_
          rintro e w' ⟨rfl, rfl⟩
          go_wp2_with fail
          go_round
          case rel => exact ⟨k + 1, by omega, by go_num, HA.out⟩
          case measure => simp [intOf] <;> omega
      · obtain rfl : k = N := by omega
        have hno := inv_none (wim := wim) (nw := (k : Int)) (fun j hj => hall j (by omega))
        have E := phid (show invV wim k = 0 ∧ invE wim k = 5 from ⟨by unfold invV; rw [if_pos HW.out, hno], by unfold invE; rw [if_pos HW.out, hno]⟩)
        clear hall hno
        go_wp2_with fail
        go_ret2
        exact ⟨pret2 E.out.1.symm E.out.2.symm, rfl⟩
  · rw [decide_eq_false hw] at hq
    have H1 := phid hq
    have E := phid (show invV wim nw = 0 ∧ invE wim nw = 2 from ⟨if_neg hw, if_neg hw⟩)
    clear hq hw
    go_enter Tryz.func150, Tryz.ntmps150
    go_wp2_with fail
    refine (H1.out _).mono ?_
    rintro e w' ⟨rfl, rfl⟩
    go_wp2_with fail
    go_ret2
    exact ⟨pret2 E.out.1.symm E.out.2.symm, rfl⟩
set_option maxRecDepth 100000 in
set_option maxHeartbeats 2000000 in
theorem rresident_loop (x wim nw : Int) (h0 : 0 ≤ wim) (h1 : wim < 4294967296) (hw : winP nw) (hx : 0 ≤ x ∧ x < nw) (hE : invE wim nw = 0) (w : World) :
    Calls Tryz.prog 101 #[.int .i64 x, .int .u32 wim, .int .i64 nw] w (TellsI (resV x wim nw) (resE x wim nw) w) := by
  have hq := rwindows_any nw
  rw [decide_eq_true hw] at hq
  have d1 : decide (x < 0) = false := by have := hx.1; simp; omega
  have d2 : decide (nw ≤ x) = false := by have := hx.2; simp; omega
  have hi := rinvalid_any wim nw h0 h1
  rw [hE] at hi
  obtain ⟨_, hf⟩ := inv_bd hE
  have hR : resV x wim nw = resL x (invV wim nw) nw ∧ resE x wim nw = 0 := ⟨if_pos ⟨⟨hw, hx⟩, hE⟩, by unfold resE; rw [if_pos ⟨hw, hx⟩]; exact hE⟩
  rw [hR.1, hR.2]
  clear hR hE
  generalize invV wim nw = fin at *
  have hst := res_step hw hf hx
  have hme := fun k => res_meas (x := x) (fin := fin) hw k
  have HME := phid hme
  clear hme
  have hnw := hw.1
  have hnw2 := hw.2
  have H1 := phid hq
  have HI := phid hi
  have HS := phid hst
  have HF := phid hf
  obtain ⟨i0, hi0, hz0, hz1, hz2⟩ := info_parts info64
  have HXX := phid hx
  clear hq hi hst hf hw
  unfold resL
  generalize hN : ((fin - x) % nw).toNat = N at *
  have HN := phid hN
  clear hN
  go_enter Tryz.func101, Tryz.ntmps101
  go_wp2_with fail
  refine (H1.out _).mono ?_
  rintro e w' ⟨rfl, rfl⟩
  go_wp2_with fail
  refine (HI.out _).mono ?_
  rintro e w2 ⟨rfl, rfl⟩
  have HB2 := phid (Below.refl w.heap.size w)
  clear HI H1
  go_wp2_with fail
  go_loopw [0, 10] (fun y v wr => ∃ k : Nat, k ≤ N ∧ y = .int .i64 ((x + (k : Int)) % nw) ∧ wr.ownsRow w.heap.size 3 1 v k (i64s (resK x nw k)) ∧ Below w.heap.size w wr) (fun y _ _ => ((fin - intOf y) % nw).toNat)
  case atStart => exact ⟨0, Nat.zero_le _, by congr 1; have := HXX.out; rw [show x + ((0 : Nat) : Int) = x by omega]; exact (Int.emod_eq_of_lt this.1 this.2).symm, World.ownsRow_nil _ _ _ _, HB2.out⟩
  case round =>
    obtain ⟨k, hk, rfl, hown, hbl⟩ := hrel
    obtain ⟨s1, s2, s3, s4, s5, s6⟩ := HS.out k
    have hsu := resK_succ x nw k
    by_cases hlt : k < N
    · have hne : ((x + (k : Int)) % nw != fin) = true := by simpa using s1 hlt
      have q2 : k + 1 ≤ maxLen := by unfold maxLen; have := s3 hk; omega
      have q3 : (k + 1) * 8 ≤ 140737488355328 := by have := s3 hk; omega
      have q4 := hbl.size
      have q5 : w.heap.size ≤ wr.heap.size + 1 := by omega
      have m1 := HME.out k (by have := HN.out; omega)
      have m2 := HME.out (k + 1) (by have := HN.out; omega)
      rw [← s4] at m2
      have HM := phid (And.intro m1 m2)
      have HSU := phid hsu
      have HB := phid hbl
      have HS4 := phid s4
      clear hsu hbl s1 s2 s3 s4 m1 m2
      generalize (x + (k : Int)) % nw = y at *
      go_wp2_with (at_builtin; refine wpList_append_own _ rfl _ _ 159 rfl w.heap.size 3 i0 (.int .i64 0) 1 8 Tryz.underlying159 hi0 hz0 hz1 hz2 rfl (by decide) _ k (i64s (resK x nw k)) rfl (hown.alloc _) ⟨wr.heap.size, 0, none⟩ 1 1 [.int .i64 y] rfl rfl (cell_one_new _ _ _) (by simp [Value.oneCell']) q2 q3 (by simpa using q5) ?_; intro v' w3 hown1 hgrow1 hnil)
      have hb1 : Below w.heap.size w w3 := (HB.out.alloc q4 _).grown hgrow1 (by simpa using q5) (fun r e => ((hown.alloc (.cells #[.int .i64 y] 3)).lt r e).1)
      go_roundw
      case rel => exact ⟨k + 1, by omega, congrArg _ HS4.out, by rw [HSU.out]; simpa [i64s] using hown1, hb1⟩
      case measure => simp only [intOf]; have := HM.out; have := HN.out; omega
    · obtain rfl : k = N := by omega
      have hne : ((x + (k : Int)) % nw != fin) = false := by simpa using s2
      clear s1 s2 s3 s4 hsu
      generalize (x + (k : Int)) % nw = y at *
      go_wp2_with fail
      go_ret2
      exact ⟨_, rfl, by rw [resK_len]; exact hown, hbl⟩
set_option maxRecDepth 100000 in
set_option maxHeartbeats 2000000 in
theorem rresident_any (x wim nw : Int) (h0 : 0 ≤ wim) (h1 : wim < 4294967296) (w : World) :
    Calls Tryz.prog 101 #[.int .i64 x, .int .u32 wim, .int .i64 nw] w (TellsI (resV x wim nw) (resE x wim nw) w) := by
  have hq := rwindows_any nw
  rcases okW_cases x nw with ⟨hw, hn⟩ | ⟨hw, hx, hn⟩ | ⟨hw, hx, hx2, hn⟩ | ⟨hw, hx, hx2, hn⟩
  · rw [decide_eq_false hw] at hq
    have E := phid (show resV x wim nw = [] ∧ resE x wim nw = 2 from ⟨if_neg (fun h => hn h.1), if_neg hn⟩)
    have H1 := phid hq
    clear hq hw hn
    go_enter Tryz.func101, Tryz.ntmps101
    go_wp2_with fail
    refine (H1.out _).mono ?_
    rintro e w' ⟨rfl, rfl⟩
    go_wp2_with fail
    go_ret2
    exact ⟨.slice none 0 0, by rw [E.out.2]; rfl, by rw [E.out.1]; exact own_nil64 _ _, Below.refl _ _⟩
  · rw [decide_eq_true hw] at hq
    have E := phid (show resV x wim nw = [] ∧ resE x wim nw = 2 from ⟨if_neg (fun h => hn h.1), if_neg hn⟩)
    have H1 := phid hq
    have d1 : decide (x < 0) = true := by simpa using hx
    clear hq hw hn hx
    go_enter Tryz.func101, Tryz.ntmps101
    go_wp2_with fail
    refine (H1.out _).mono ?_
    rintro e w' ⟨rfl, rfl⟩
    go_wp2_with fail
    go_ret2
    exact ⟨.slice none 0 0, by rw [E.out.2]; rfl, by rw [E.out.1]; exact own_nil64 _ _, Below.refl _ _⟩
  · rw [decide_eq_true hw] at hq
    have E := phid (show resV x wim nw = [] ∧ resE x wim nw = 2 from ⟨if_neg (fun h => hn h.1), if_neg hn⟩)
    have H1 := phid hq
    have d1 : decide (x < 0) = false := by simp; omega
    have d2 : decide (nw ≤ x) = true := by simpa using hx2
    clear hq hw hn hx hx2
    go_enter Tryz.func101, Tryz.ntmps101
    go_wp2_with fail
    refine (H1.out _).mono ?_
    rintro e w' ⟨rfl, rfl⟩
    go_wp2_with fail
    go_ret2
    exact ⟨.slice none 0 0, by rw [E.out.2]; rfl, by rw [E.out.1]; exact own_nil64 _ _, Below.refl _ _⟩
  · by_cases hE : invE wim nw = 0
    · exact rresident_loop x wim nw h0 h1 hw ⟨hx, hx2⟩ hE w
    · rw [decide_eq_true hw] at hq
      have hi := rinvalid_any wim nw h0 h1
      have E := phid (show resV x wim nw = [] ∧ resE x wim nw = invE wim nw from ⟨if_neg (fun h => hE h.2), if_pos hn⟩)
      have hne : (invE wim nw != 0) = true := by simpa using hE
      have H1 := phid hq
      have HI := phid hi
      have d1 : decide (x < 0) = false := by simp; omega
      have d2 : decide (nw ≤ x) = false := by simp; omega
      clear hq hi hw hn hx hx2 hE
      generalize invE wim nw = er at *
      go_enter Tryz.func101, Tryz.ntmps101
      go_wp2_with fail
      refine (H1.out _).mono ?_
      rintro e w' ⟨rfl, rfl⟩
      go_wp2_with fail
      refine (HI.out _).mono ?_
      rintro e w' ⟨rfl, rfl⟩
      go_wp2_with fail
      go_ret2
      exact ⟨.slice none 0 0, by rw [E.out.2]; rfl, by rw [E.out.1]; exact own_nil64 _ _, Below.refl _ _⟩
end Go.Proofs.YtajholbcpmjhiaaGreatDoor
/- How an argument of type api.Psr is read; the table of math/bits. -/
namespace Go.Proofs.YtajholbcpmjhiaaGreatDoor
open Go.RowKit Go.ChangeShapes Go.WideShapes Go.ChangeAt
theorem bru_of {W : World} (h : ∀ i (hi : i < ([0, 1, 28, 2, 29, 14, 24, 3, 30, 22, 20, 15, 25, 17, 4, 8, 31, 27, 13, 23, 21, 19, 16, 7, 26, 12, 18, 6, 11, 5, 10, 9] : List Int).length), W.cell? ⟨1, i, none⟩ = some (.int .u8 (([0, 1, 28, 2, 29, 14, 24, 3, 30, 22, 20, 15, 25, 17, 4, 8, 31, 27, 13, 23, 21, 19, 16, 7, 26, 12, 18, 6, 11, 5, 10, 9] : List Int).getD i 0))) : Bru W := fun i hi => h i (by simpa using hi)
end Go.Proofs.YtajholbcpmjhiaaGreatDoor
/- How an argument of type api.Inst is read; the table of what operations have. -/
namespace Go.Proofs.YtajholbcpmjhiaaGreatDoor
open Go.RowKit Go.ChangeShapes Go.WideShapes Go.ChangeAt
set_option maxRecDepth 100000 in
theorem tab_of {W : World} (h : ∀ i (hi : i < ([128, 7, 7, 7, 7, 7, 7, 7, 7, 7, 7, 7, 7, 7, 7, 25, 6, 25, 24, 7, 7, 7, 7, 7, 7, 7, 1, 6, 1, 6, 9, 10, 0, 8, 1, 2, 2, 8] : List Int).length), W.cell? ⟨0, i, none⟩ = some (.int .u8 (([128, 7, 7, 7, 7, 7, 7, 7, 7, 7, 7, 7, 7, 7, 7, 25, 6, 25, 24, 7, 7, 7, 7, 7, 7, 7, 1, 6, 1, 6, 9, 10, 0, 8, 1, 2, 2, 8] : List Int).getD i 0))) : Tab W := by
  intro i hi
  have hall : ∀ j : Fin 38, ([128, 7, 7, 7, 7, 7, 7, 7, 7, 7, 7, 7, 7, 7, 7, 25, 6, 25, 24, 7, 7, 7, 7, 7, 7, 7, 1, 6, 1, 6, 9, 10, 0, 8, 1, 2, 2, 8] : List Int).getD j.val 0 = hasK (kindS (j.val : Int)) := by decide
  have h1 := h i (by simpa using hi)
  rw [h1]
  exact congrArg (fun n => some (Value.int .u8 n)) (hall ⟨i, hi⟩)
end Go.Proofs.YtajholbcpmjhiaaGreatDoor
/- How an argument of type muntinlaw06.Start is read. -/
namespace Go.Proofs.YtajholbcpmjhiaaGreatDoor
open Go.RowKit Go.ChangeShapes Go.WideShapes Go.ChangeAt
def WordsIn (w : World) (v : Value) (l : List Int) : Prop :=
  U32s (fun k => w.heap.size ≤ k) w v l ∧ l.length ≤ maxLen ∧ ∀ p n c, v = .slice p n c → n ≤ c ∧ (p = none → c = 0)
theorem WordsIn.keepb {w w' : World} {v : Value} {l : List Int} (h : WordsIn w v l) (hb : Below w.heap.size w w') : WordsIn w' v l := by
  obtain ⟨⟨h1, p, c, rfl, h2⟩, h3, h4⟩ := h
  refine ⟨⟨h1, p, c, rfl, fun h0 => ?_⟩, h3, h4⟩
  obtain ⟨b, o, rfl, h5, h6, h7⟩ := h2 h0
  exact ⟨b, o, rfl, Nat.not_le.2 (Nat.lt_of_lt_of_le h6 hb.size), Nat.lt_of_lt_of_le h6 hb.size, fun k hk => (hb.cell (p := ⟨b, o + k, none⟩) h6).trans (h7 k hk)⟩
theorem mlist_of {α : Type} (P : Nat → α → Prop) : ∀ n, (∀ i, i < n → ∃ y, P i y) → ∃ l : List α, l.length = n ∧ ∀ k y, l[k]? = some y → P k y := by
  intro n
  induction n with
  | zero => intro _; exact ⟨[], rfl, fun k y h => by simp at h⟩
  | succ n ih =>
    intro h
    obtain ⟨l, hl, hp⟩ := ih (fun i hi => h i (by omega))
    obtain ⟨y, hy⟩ := h n (by omega)
    refine ⟨l ++ [y], by simp [hl], fun k z hz => ?_⟩
    by_cases hk : k < l.length
    · rw [List.getElem?_append_left hk] at hz; exact hp k z hz
    · rw [List.getElem?_append_right (by omega)] at hz
      have : k - l.length = 0 := by
        rcases Nat.eq_zero_or_pos (k - l.length) with e | e
        · exact e
        · rw [List.getElem?_eq_none (by simp; omega)] at hz; cases hz
      rw [this] at hz
      cases hz
      obtain rfl : k = n := by omega
      exact hy
theorem maddr_add (b o n : Nat) : (⟨b, o, none⟩ : Addr).add n = ⟨b, o + n, none⟩ := by unfold Addr.add; split <;> simp [*]
theorem mcells_each {w : World} {base : Nat} {a : Addr} {n : Nat} {cs : List Value} (h : w.cells? base a n = some cs) : cs.length = n ∧ ∀ j u, cs[j]? = some u → w.cell? (a.add j) = some u := by
  obtain ⟨_, h1, h2⟩ := World.cells?_some h
  refine ⟨h1, fun j u hu => ?_⟩
  have hj : j < n := by
    rcases Nat.lt_or_ge j n with h3 | h3
    · exact h3
    · rw [List.getElem?_eq_none (by omega)] at hu; cases hu
  have := h2 j hj
  rw [this]; exact hu
section
variable {H : Type} {enc : TypeId × Value → H} {w : World} {base : Nat} {spare : Nat → Bool} {held : Bool} {fuel : Nat} {x : DataW H × List MemPlace}
theorem trod_wordsin {cs : List Value} (h : DataW.trod enc Tryz.prog w base spare held fuel 22 cs = some x) : ∃ v l, cs = [v] ∧ WordsIn w v l := by
  obtain ⟨p, c, l, rfl, h1, h2, h3⟩ := trod_row h
  refine ⟨_, l, rfl, h3, h1, fun p' n' c' e => ?_⟩
  cases e
  refine ⟨h2, fun e => ?_⟩
  subst e
  rcases Go.Deep.open_slice Tryz.underlying22 h with ⟨hh, _⟩ | ⟨a, len, cap, m, q, D, Pl, hh, _⟩
  · simp at hh; exact hh.2
  · simp at hh
theorem mc_int : Tryz.prog.cellsOf 3 = 1 := by kernel_rfl
theorem mc_u32 : Tryz.prog.cellsOf 24 = 1 := by kernel_rfl
theorem mc_words : Tryz.prog.cellsOf 22 = 1 := by kernel_rfl
theorem mlist4 {α : Type} {l : List α} (h : l.length = 4) : ∃ a b c d, l = [a, b, c, d] := by
  match l, h with
  | [a, b, c, d], _ => exact ⟨a, b, c, d, rfl⟩
end
end Go.Proofs.YtajholbcpmjhiaaGreatDoor
