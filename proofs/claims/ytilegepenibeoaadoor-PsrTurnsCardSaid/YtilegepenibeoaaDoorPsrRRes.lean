/- The document's Invalid, Resident and Same (muntinref04). -/
import Derived.Test.YtilegepenibeoaaDoorPsrRWin
import Derived.Deep.QuietTactic
import Derived.BigQuiet
namespace Go.Proofs.YtilegepenibeoaaDoor
open Go.RowKit
set_option linter.unusedVariables false
set_option linter.unusedSimpArgs false
theorem pcell_of_obj {w : World} {g i : Nat} {c : Array Value} {t : TypeId} {fz : Nat × Nat} (h : w.heap[g]? = some (.cells c t fz)) : w.cell? ⟨g, i, none⟩ = c[i]? := by
  simp [World.cell?, h]
set_option maxRecDepth 100000 in
set_option maxHeartbeats 2000000 in
theorem rinvalid_any (wim nw : Int) (h0 : 0 ≤ wim) (h1 : wim < 4294967296) (w : World) : Calls Tryd.prog 30 #[.int .u32 wim, .int .i64 nw] w fun e w' => e = .returned (.tuple #[.int .i64 (invV wim nw), .int .i64 (invE wim nw)]) ∧ w = w' := by
  have hq := rwindows_any nw
  by_cases hw : winP nw
  · rw [decide_eq_true hw] at hq
    have H1 := phid hq
    have HW := phid hw
    obtain ⟨N, rfl⟩ := Int.eq_ofNat_of_zero_le (show 0 ≤ nw by have := hw.1; omega)
    have hn2 : N ≤ 32 := by have := hw.2; omega
    clear hq hw
    go_enter Tryd.func30, Tryd.ntmps30
    go_wp2_with fail
    refine (H1.out _).mono ?_
    rintro e w' ⟨rfl, rfl⟩
    go_wp2_with fail
    go_loop [6] (fun i => ∃ k : Nat, k ≤ N ∧ i = .int .i64 k ∧ ∀ j : Nat, j < k → wim ≠ 2 ^ j) (fun i => N - (intOf i).toNat)
    case atStart => exact ⟨0, Nat.zero_le _, rfl, fun j hj => by omega⟩
    case round =>
      obtain ⟨k, hk, rfl, hall⟩ := hrel
      by_cases hlt : k < N
      · have hok : okW (k : Int) (N : Int) := ⟨HW.out, by omega, by omega⟩
        have hwm := rwim_any (k : Int) (N : Int)
        rw [show wimV (k : Int) (N : Int) = 2 ^ k from if_pos hok, show okE (k : Int) (N : Int) = 0 from if_pos hok] at hwm
        have HM := phid hwm
        have hkk : (k : Int) < N := by omega
        by_cases he : wim = 2 ^ k
        · have E := phid (show invV wim N = k ∧ invE wim N = 0 from ⟨by unfold invV; rw [if_pos HW.out, inv_some he hkk], by unfold invE; rw [if_pos HW.out, inv_some he hkk]⟩)
          have he2 : ((2 : Int) ^ k == wim) = true := by simpa using he.symm
          clear hwm hall hok he
          generalize (2 : Int) ^ k = p at *
          go_wp2_with fail
          refine (HM.out _).mono ?_
          rintro e w' ⟨rfl, rfl⟩
          go_wp2_with fail
          go_ret2
          exact ⟨pret2 E.out.1.symm E.out.2.symm, rfl⟩
        · have he2 : ((2 : Int) ^ k == wim) = false := by simpa using fun h => he h.symm
          have HA := phid (show ∀ j : Nat, j < k + 1 → wim ≠ 2 ^ j from fun j hj => by
            by_cases hjk : j = k
            · rw [hjk]; exact he
            · exact hall j (by omega))
          clear hwm hall hok he
          generalize (2 : Int) ^ k = p at he2 HM
          go_wp2_with fail
          refine (HM.out _).mono ?_
          rintro e w' ⟨rfl, rfl⟩
          go_wp2_with fail
          go_round
          case rel => exact ⟨k + 1, by omega, by go_num, HA.out⟩
          case measure => simp [intOf] <;> omega
      · obtain rfl : k = N := by omega
        have hno := inv_none (wim := wim) (nw := (k : Int)) (fun j hj => hall j (by omega))
        have E := phid (show invV wim k = 0 ∧ invE wim k = 5 from ⟨by unfold invV; rw [if_pos HW.out, hno], by unfold invE; rw [if_pos HW.out, hno]⟩)
        clear hall hno
        go_wp2_with fail
        go_ret2
        exact ⟨pret2 E.out.1.symm E.out.2.symm, rfl⟩
  · rw [decide_eq_false hw] at hq
    have H1 := phid hq
    have E := phid (show invV wim nw = 0 ∧ invE wim nw = 2 from ⟨if_neg hw, if_neg hw⟩)
    clear hq hw
    go_enter Tryd.func30, Tryd.ntmps30
    go_wp2_with fail
    refine (H1.out _).mono ?_
    rintro e w' ⟨rfl, rfl⟩
    go_wp2_with fail
    go_ret2
    exact ⟨pret2 E.out.1.symm E.out.2.symm, rfl⟩
set_option maxRecDepth 100000 in
set_option maxHeartbeats 2000000 in
theorem rresident_loop (x wim nw : Int) (h0 : 0 ≤ wim) (h1 : wim < 4294967296) (hw : winP nw) (hx : 0 ≤ x ∧ x < nw) (hE : invE wim nw = 0) (w : World) :
    Calls Tryd.prog 32 #[.int .i64 x, .int .u32 wim, .int .i64 nw] w (TellsI (resV x wim nw) (resE x wim nw) w) := by
  have hq := rwindows_any nw
  rw [decide_eq_true hw] at hq
  have d1 : decide (x < 0) = false := by have := hx.1; simp; omega
  have d2 : decide (nw ≤ x) = false := by have := hx.2; simp; omega
  have hi := rinvalid_any wim nw h0 h1
  rw [hE] at hi
  obtain ⟨_, hf⟩ := inv_bd hE
  have hR : resV x wim nw = resL x (invV wim nw) nw ∧ resE x wim nw = 0 := ⟨if_pos ⟨⟨hw, hx⟩, hE⟩, by unfold resE; rw [if_pos ⟨hw, hx⟩]; exact hE⟩
  rw [hR.1, hR.2]
  clear hR hE
  generalize invV wim nw = fin at *
  have hst := res_step hw hf hx
  have hme := fun k => res_meas (x := x) (fin := fin) hw k
  have HME := phid hme
  clear hme
  have hnw := hw.1
  have hnw2 := hw.2
  have H1 := phid hq
  have HI := phid hi
  have HS := phid hst
  have HF := phid hf
  obtain ⟨i0, hi0, hz0, hz1, hz2⟩ := info_parts info64
  have HXX := phid hx
  clear hq hi hst hf hw
  unfold resL
  generalize hN : ((fin - x) % nw).toNat = N at *
  have HN := phid hN
  clear hN
  go_enter Tryd.func32, Tryd.ntmps32
  go_wp2_with fail
  refine (H1.out _).mono ?_
  rintro e w' ⟨rfl, rfl⟩
  go_wp2_with fail
  refine (HI.out _).mono ?_
  rintro e w2 ⟨rfl, rfl⟩
  have HB2 := phid (Below.refl w.heap.size w)
  clear HI H1
  go_wp2_with fail
  go_loopw [0, 10] (fun y v wr => ∃ k : Nat, k ≤ N ∧ y = .int .i64 ((x + (k : Int)) % nw) ∧ wr.ownsRow w.heap.size 3 1 v k (i64s (resK x nw k)) ∧ Below w.heap.size w wr) (fun y _ _ => ((fin - intOf y) % nw).toNat)
  case atStart => exact ⟨0, Nat.zero_le _, by congr 1; have := HXX.out; rw [show x + ((0 : Nat) : Int) = x by omega]; exact (Int.emod_eq_of_lt this.1 this.2).symm, World.ownsRow_nil _ _ _ _, HB2.out⟩
  case round =>
    obtain ⟨k, hk, rfl, hown, hbl⟩ := hrel
    obtain ⟨s1, s2, s3, s4, s5, s6⟩ := HS.out k
    have hsu := resK_succ x nw k
    by_cases hlt : k < N
    · have hne : ((x + (k : Int)) % nw != fin) = true := by simpa using s1 hlt
      have q2 : k + 1 ≤ maxLen := by unfold maxLen; have := s3 hk; omega
      have q3 : (k + 1) * 8 ≤ 140737488355328 := by have := s3 hk; omega
      have q4 := hbl.size
      have q5 : w.heap.size ≤ wr.heap.size + 1 := by omega
      have m1 := HME.out k (by have := HN.out; omega)
      have m2 := HME.out (k + 1) (by have := HN.out; omega)
      rw [← s4] at m2
      have HM := phid (And.intro m1 m2)
      have HSU := phid hsu
      have HB := phid hbl
      have HS4 := phid s4
      clear hsu hbl s1 s2 s3 s4 m1 m2
      generalize (x + (k : Int)) % nw = y at *
      go_wp2_with (at_builtin; refine wpList_append_own _ rfl _ _ 54 rfl w.heap.size 3 i0 (.int .i64 0) 1 8 Tryd.underlying54 hi0 hz0 hz1 hz2 rfl (by decide) _ k (i64s (resK x nw k)) rfl (hown.alloc _) ⟨wr.heap.size, 0, none⟩ 1 1 [.int .i64 y] rfl rfl (cell_one_new _ _ _) (by simp [Value.oneCell']) q2 q3 (by simpa using q5) ?_; intro v' w3 hown1 hgrow1 hnil)
      have hb1 : Below w.heap.size w w3 := (HB.out.alloc q4 _).grown hgrow1 (by simpa using q5) (fun r e => ((hown.alloc (.cells #[.int .i64 y] 3)).lt r e).1)
      go_roundw
      case rel => exact ⟨k + 1, by omega, congrArg _ HS4.out, by rw [HSU.out]; simpa [i64s] using hown1, hb1⟩
      case measure => simp only [intOf]; have := HM.out; have := HN.out; omega
    · obtain rfl : k = N := by omega
      have hne : ((x + (k : Int)) % nw != fin) = false := by simpa using s2
      clear s1 s2 s3 s4 hsu
      generalize (x + (k : Int)) % nw = y at *
      go_wp2_with fail
      go_ret2
      exact ⟨_, rfl, by rw [resK_len]; exact hown, hbl⟩
set_option maxRecDepth 100000 in
set_option maxHeartbeats 2000000 in
theorem rresident_any (x wim nw : Int) (h0 : 0 ≤ wim) (h1 : wim < 4294967296) (w : World) :
    Calls Tryd.prog 32 #[.int .i64 x, .int .u32 wim, .int .i64 nw] w (TellsI (resV x wim nw) (resE x wim nw) w) := by
  have hq := rwindows_any nw
  rcases okW_cases x nw with ⟨hw, hn⟩ | ⟨hw, hx, hn⟩ | ⟨hw, hx, hx2, hn⟩ | ⟨hw, hx, hx2, hn⟩
  · rw [decide_eq_false hw] at hq
    have E := phid (show resV x wim nw = [] ∧ resE x wim nw = 2 from ⟨if_neg (fun h => hn h.1), if_neg hn⟩)
    have H1 := phid hq
    clear hq hw hn
    go_enter Tryd.func32, Tryd.ntmps32
    go_wp2_with fail
    refine (H1.out _).mono ?_
    rintro e w' ⟨rfl, rfl⟩
    go_wp2_with fail
    go_ret2
    exact ⟨.slice none 0 0, by rw [E.out.2]; rfl, by rw [E.out.1]; exact own_nil64 _ _, Below.refl _ _⟩
  · rw [decide_eq_true hw] at hq
    have E := phid (show resV x wim nw = [] ∧ resE x wim nw = 2 from ⟨if_neg (fun h => hn h.1), if_neg hn⟩)
    have H1 := phid hq
    have d1 : decide (x < 0) = true := by simpa using hx
    clear hq hw hn hx
    go_enter Tryd.func32, Tryd.ntmps32
    go_wp2_with fail
    refine (H1.out _).mono ?_
    rintro e w' ⟨rfl, rfl⟩
    go_wp2_with fail
    go_ret2
    exact ⟨.slice none 0 0, by rw [E.out.2]; rfl, by rw [E.out.1]; exact own_nil64 _ _, Below.refl _ _⟩
  · rw [decide_eq_true hw] at hq
    have E := phid (show resV x wim nw = [] ∧ resE x wim nw = 2 from ⟨if_neg (fun h => hn h.1), if_neg hn⟩)
    have H1 := phid hq
    have d1 : decide (x < 0) = false := by simp; omega
    have d2 : decide (nw ≤ x) = true := by simpa using hx2
    clear hq hw hn hx hx2
    go_enter Tryd.func32, Tryd.ntmps32
    go_wp2_with fail
    refine (H1.out _).mono ?_
    rintro e w' ⟨rfl, rfl⟩
    go_wp2_with fail
    go_ret2
    exact ⟨.slice none 0 0, by rw [E.out.2]; rfl, by rw [E.out.1]; exact own_nil64 _ _, Below.refl _ _⟩
  · by_cases hE : invE wim nw = 0
    · exact rresident_loop x wim nw h0 h1 hw ⟨hx, hx2⟩ hE w
    · rw [decide_eq_true hw] at hq
      have hi := rinvalid_any wim nw h0 h1
      have E := phid (show resV x wim nw = [] ∧ resE x wim nw = invE wim nw from ⟨if_neg (fun h => hE h.2), if_pos hn⟩)
      have hne : (invE wim nw != 0) = true := by simpa using hE
      have H1 := phid hq
      have HI := phid hi
      have d1 : decide (x < 0) = false := by simp; omega
      have d2 : decide (nw ≤ x) = false := by simp; omega
      clear hq hi hw hn hx hx2 hE
      generalize invE wim nw = er at *
      go_enter Tryd.func32, Tryd.ntmps32
      go_wp2_with fail
      refine (H1.out _).mono ?_
      rintro e w' ⟨rfl, rfl⟩
      go_wp2_with fail
      refine (HI.out _).mono ?_
      rintro e w' ⟨rfl, rfl⟩
      go_wp2_with fail
      go_ret2
      exact ⟨.slice none 0 0, by rw [E.out.2]; rfl, by rw [E.out.1]; exact own_nil64 _ _, Below.refl _ _⟩
theorem pret_val {a b : Value} (h : a = b) : Ending.returned a = .returned b := by rw [h]
/-- A row of numbers, as it is read. -/
def ReadsI (w : World) (v : Value) (l : List Int) : Prop :=
  l.length ≤ maxLen ∧ ∃ p c, v = .slice p l.length c ∧ (0 < l.length → ∃ b o, p = some ⟨b, o, none⟩ ∧ ∀ k, k < l.length → w.cell? ⟨b, o + k, none⟩ = some (.int .i64 (l.getD k 0)))
theorem ReadsI.shape {w : World} {v : Value} {l : List Int} (h : ReadsI w v l) : ∃ b o p c, v = .slice p l.length c ∧ l.length ≤ maxLen ∧ (0 < l.length → p = some ⟨b, o, none⟩) ∧ ∀ k, k < l.length → w.cell? ⟨b, o + k, none⟩ = some (.int .i64 (l.getD k 0)) := by
  obtain ⟨h1, p, c, rfl, h2⟩ := h
  by_cases h0 : 0 < l.length
  · obtain ⟨b, o, rfl, h3⟩ := h2 h0
    exact ⟨b, o, _, c, rfl, h1, fun _ => rfl, h3⟩
  · exact ⟨0, 0, p, c, rfl, h1, fun h => absurd h h0, fun k hk => by omega⟩
theorem ReadsI.of_own {w : World} {base : Nat} {v : Value} {l : List Int} (h : w.ownsRow base 3 1 v l.length (i64s l)) : ReadsI w v l := by
  rcases h.2 with ⟨h1, h2⟩ | ⟨g, cap, cur, h1, h2, h3, h4, h5, h6, h7⟩
  · obtain rfl := List.length_eq_zero_iff.1 h2
    exact ⟨by unfold maxLen; simp, none, 0, h1, fun h => by simp at h⟩
  · refine ⟨by omega, _, cap, h1, fun _ => ⟨g, 0, rfl, fun k hk => ?_⟩⟩
    rw [Nat.zero_add, pcell_of_obj h3]
    have e : cur[k]? = (cur.toList.take (l.length * 1))[k]? := by
      rw [List.getElem?_take_of_lt (by omega)]; simp
    rw [e, h7]
    simp [i64s, hk]
set_option maxHeartbeats 1000000 in
theorem psame_any (w : World) (u v : Value) (a b : List Int) (hu : ReadsI w u a) (hv : ReadsI w v b) :
    Calls Tryd.prog 33 #[u, v] w fun e w' => e = .returned (.bool (decide (a = b))) ∧ Below w.heap.size w w' := by
  obtain ⟨ba, oa, pa, ca, rfl, la, qa, ha⟩ := hu.shape
  obtain ⟨bb, ob, pb, cb, rfl, lb, qb, hb⟩ := hv.shape
  unfold maxLen at la lb
  have QA := phid (And.intro qa ha)
  have QB := phid (And.intro qb hb)
  clear qa ha qb hb hu hv
  by_cases hl : a.length = b.length
  · have hneq : ((a.length : Int) != (b.length : Int)) = false := by simp [hl]
    have HL := phid hl
    clear hl
    go_enter Tryd.func33, Tryd.ntmps33
    go_wp2_with fail
    go_loopw [5] (fun i wr => ∃ k : Nat, k ≤ a.length ∧ i = .int .i64 k ∧ a.take k = b.take k ∧ (∃ n, wr = w.drewN n)) (fun i _ => a.length - (intOf i).toNat)
    case atStart => exact ⟨0, Nat.zero_le _, rfl, rfl, 0, rfl⟩
    case round =>
      obtain ⟨k, hk, rfl, htk, n, rfl⟩ := hrel
      have HT := phid htk
      clear htk
      by_cases hlt : k < a.length
      · have hlb : k < b.length := by rw [← HL.out]; exact hlt
        obtain rfl := QA.out.1 (by omega)
        obtain rfl := QB.out.1 (by omega)
        have c1 := QA.out.2 k hlt
        have c2 := QB.out.2 k hlb
        have hx : a.getD k 0 = a[k] := by simp [List.getD_eq_getElem?_getD, hlt]
        have hy : b.getD k 0 = b[k] := by simp [List.getD_eq_getElem?_getD, hlb]
        have t1 := List.take_succ_eq_append_getElem hlt
        have t2 := List.take_succ_eq_append_getElem hlb
        have h1 : (k : Int) < a.length := by omega
        have h2 : (k : Int) < b.length := by omega
        by_cases hxy : a.getD k 0 = b.getD k 0
        · have hab : a.take (k + 1) = b.take (k + 1) := by rw [t1, t2, HT.out, ← hx, ← hy, hxy]
          have HA := phid hab
          rw [hxy] at c1
          clear hab t1 t2 hx hy hxy
          generalize b.getD k 0 = y at c1 c2
          go_wp2_with fail
          go_quiet (fail)
          go_wp2_with fail
          exact ⟨⟨k + 1, by omega, by go_num, HA.out, _, rfl⟩, by simp [intOf] <;> omega⟩
        · have hab : a ≠ b := fun e => hxy (by rw [e])
          have HA := phid hab
          clear hab t1 t2 hx hy
          generalize b.getD k 0 = y at c2 hxy
          generalize a.getD k 0 = x at c1 hxy
          have hne : (x != y) = true := by simpa using hxy
          go_wp2_with fail
          go_quiet (fail)
          go_wp2_with fail
          go_ret
          exact ⟨pret_val (by rw [decide_eq_false HA.out]; rfl), below_drewN (below_drewN (Below.refl _ _) n) _⟩
      · obtain rfl : k = a.length := by omega
        have hab : a = b := by
          have h1 := HT.out
          rw [List.take_length, HL.out, List.take_length] at h1; exact h1
        have HA := phid hab
        clear hab
        go_wp2_with fail
        go_ret
        exact ⟨pret_val (by rw [decide_eq_true HA.out]; rfl), below_drewN (Below.refl _ _) n⟩
  · have hneq : ((a.length : Int) != (b.length : Int)) = true := by simp; omega
    have hab : a ≠ b := fun e => hl (by rw [e])
    have HA := phid hab
    clear hab hl
    go_enter Tryd.func33, Tryd.ntmps33
    go_wp2_with fail
    go_ret
    exact ⟨pret_val (by rw [decide_eq_false HA.out]; rfl), Below.refl _ _⟩
end Go.Proofs.YtilegepenibeoaaDoor
