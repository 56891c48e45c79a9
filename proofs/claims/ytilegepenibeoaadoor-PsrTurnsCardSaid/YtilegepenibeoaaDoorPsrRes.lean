/- Resident windows. -/
import Derived.Test.YtilegepenibeoaaDoorPsrWin
import Derived.Maps.AppendAt
import Derived.StillTailTactics
import Derived.Laws.EntriesVeiled
namespace Go.Proofs.YtilegepenibeoaaDoor
open Go.RowKit
set_option linter.unusedVariables false
set_option linter.unusedSimpArgs false
theorem info64 : (Tryd.prog.info? 3).map (fun i => (i.zero, i.size, i.bytes)) = some (some (.int .i64 0), 1, 8) := by kernel_rfl
def i64s (l : List Int) : List Value := l.map (.int .i64)
/-- The first windows from one on. -/
def resK (x nw : Int) (k : Nat) : List Int := (List.range k).map fun (i : Nat) => (x + (i : Int)) % nw
def resL (x fin nw : Int) : List Int := resK x nw ((fin - x) % nw).toNat
def resE (x wim nw : Int) : Int := if okW x nw then invE wim nw else 2
def resV (x wim nw : Int) : List Int := if okW x nw ∧ invE wim nw = 0 then resL x (invV wim nw) nw else []
theorem resK_succ (x nw : Int) (k : Nat) : resK x nw (k + 1) = resK x nw k ++ [(x + (k : Int)) % nw] := by
  unfold resK; rw [List.range_succ, List.map_append]; rfl
theorem resK_len (x nw : Int) (k : Nat) : (resK x nw k).length = k := by simp [resK]
theorem inv_bd {wim nw : Int} (h : invE wim nw = 0) : winP nw ∧ 0 ≤ invV wim nw ∧ invV wim nw < nw := by
  unfold invE at h
  by_cases hw : winP nw
  · rw [if_pos hw] at h
    refine ⟨hw, ?_⟩
    unfold invV
    rw [if_pos hw]
    cases hi : invO wim nw with
    | none => rw [hi] at h; simp at h
    | some k =>
      simp only
      have hk := List.mem_of_find?_eq_some hi
      simp only [List.mem_range] at hk
      omega
  · rw [if_neg hw] at h; omega
/-- A row of the call's own. -/
def TellsI (l : List Int) (er : Int) (w : World) (e : Ending) (w' : World) : Prop :=
  ∃ v, e = .returned (.tuple #[v, .int .i64 er]) ∧ w'.ownsRow w.heap.size 3 1 v l.length (i64s l) ∧ Below w.heap.size w w'
theorem res_step {x fin nw : Int} (hw : winP nw) (hf : 0 ≤ fin ∧ fin < nw) (hx : 0 ≤ x ∧ x < nw) (k : Nat) :
    (k < ((fin - x) % nw).toNat → (x + (k : Int)) % nw ≠ fin) ∧ (x + ((((fin - x) % nw).toNat : Nat) : Int)) % nw = fin ∧ (k ≤ ((fin - x) % nw).toNat → k < 32) ∧ ((x + (k : Int)) % nw + 1) % nw = (x + ((k + 1 : Nat) : Int)) % nw ∧ 0 ≤ (x + (k : Int)) % nw ∧ (x + (k : Int)) % nw < nw := by
  obtain ⟨hw1, hw2⟩ := hw
  have hm := Int.emod_nonneg (fin - x) (by omega : nw ≠ 0)
  have hm2 := Int.emod_lt_of_pos (fin - x) (by omega : 0 < nw)
  have e1 : (x + ((((fin - x) % nw).toNat : Nat) : Int)) % nw = fin := by
    rw [Int.toNat_of_nonneg hm, Int.add_emod, Int.emod_emod_of_dvd _ (Int.dvd_refl _), ← Int.add_emod]
    rw [show x + (fin - x) = fin by omega]
    exact Int.emod_eq_of_lt hf.1 hf.2
  refine ⟨fun hk h => ?_, e1, fun hk => by omega, ?_, Int.emod_nonneg _ (by omega), Int.emod_lt_of_pos _ (by omega)⟩
  · -- two numbers below nw with the same remainder are the same
    have h2 : (fin - x) % nw = (k : Int) := by
      rw [← h, Int.sub_emod, Int.emod_emod_of_dvd _ (Int.dvd_refl _), ← Int.sub_emod]
      rw [show x + (k : Int) - x = (k : Int) by omega]
      exact Int.emod_eq_of_lt (by omega) (by omega)
    omega
  · rw [Int.add_emod, Int.emod_emod_of_dvd _ (Int.dvd_refl _), ← Int.add_emod]
    congr 1
    omega
theorem res_meas {x fin nw : Int} (hw : winP nw) (k : Nat) (hk : k ≤ ((fin - x) % nw).toNat) : ((fin - (x + (k : Int)) % nw) % nw).toNat = ((fin - x) % nw).toNat - k := by
  obtain ⟨hw1, hw2⟩ := hw
  have hm := Int.emod_nonneg (fin - x) (by omega : nw ≠ 0)
  have hm2 := Int.emod_lt_of_pos (fin - x) (by omega : 0 < nw)
  have e1 := Int.mul_ediv_add_emod (fin - x) nw
  have e2 := Int.mul_ediv_add_emod (x + (k : Int)) nw
  have e3 : fin - (x + (k : Int)) % nw = ((fin - x) % nw - (k : Int)) + nw * ((fin - x) / nw + (x + (k : Int)) / nw) := by
    rw [Int.mul_add]; omega
  rw [e3, Int.add_mul_emod_self_left, Int.emod_eq_of_lt (by omega) (by omega)]
  omega
set_option maxRecDepth 100000 in
set_option maxHeartbeats 2000000 in
theorem resident_loop (x wim nw : Int) (h0 : 0 ≤ wim) (h1 : wim < 4294967296) (hw : winP nw) (hx : 0 ≤ x ∧ x < nw) (hE : invE wim nw = 0) (w : World) (hb : Bru w) :
    Calls Tryd.prog 31 #[.int .i64 x, .int .u32 wim, .int .i64 nw] w (TellsI (resV x wim nw) (resE x wim nw) w) := by
  have hq := windows_any nw
  rw [decide_eq_true hw] at hq
  have hbl := fun W => below_any [x, nw] 1 w.heap.size (by omega) rfl W
  rw [below2_eq, decide_eq_true hx] at hbl
  have hi := invalid_any wim nw h0 h1
  rw [hE] at hi
  obtain ⟨_, hf⟩ := inv_bd hE
  have hR : resV x wim nw = resL x (invV wim nw) nw ∧ resE x wim nw = 0 := ⟨if_pos ⟨⟨hw, hx⟩, hE⟩, by unfold resE; rw [if_pos ⟨hw, hx⟩]; exact hE⟩
  rw [hR.1, hR.2]
  clear hR hE
  generalize invV wim nw = fin at *
  have hst := res_step hw hf hx
  have hme := fun k => res_meas (x := x) (fin := fin) hw k
  have HME := phid hme
  clear hme
  have hnw := hw.1
  have hnw2 := hw.2
  have H1 := phid hq
  have HB := phid hbl
  have HI := phid hi
  have HS := phid hst
  have BR := phid hb
  have HF := phid hf
  obtain ⟨i0, hi0, hz0, hz1, hz2⟩ := info_parts info64
  have HXX := phid hx
  clear hq hbl hi hst hb hf hw
  unfold resL
  generalize hN : ((fin - x) % nw).toNat = N at *
  have HN := phid hN
  clear hN
  go_enter Tryd.func31, Tryd.ntmps31
  go_wp2_with fail
  refine (H1.out _).mono ?_
  rintro e w' ⟨rfl, rfl⟩
  go_wp2_with fail
  refine (HB.out _ ?_).mono ?_
  · intro k hk
    have : k = 0 ∨ k = 1 := by simp at hk; omega
    rcases this with rfl | rfl <;> simp [go_sem]
  rintro e w1 ⟨rfl, hB⟩
  have HB1 := phid (pbt (pbal _ _) hB)
  clear hB
  go_wp2_with fail
  refine (HI.out _ (BR.out.keep HB1.out)).mono ?_
  rintro e w2 ⟨rfl, hB⟩
  have HB2 := phid (pbt HB1.out hB)
  clear hB HI BR HB1 HB H1
  go_wp2_with fail
  go_loopw [0, 10] (fun y v wr => ∃ k : Nat, k ≤ N ∧ y = .int .i64 ((x + (k : Int)) % nw) ∧ wr.ownsRow w.heap.size 3 1 v k (i64s (resK x nw k)) ∧ Below w.heap.size w wr) (fun y _ _ => ((fin - intOf y) % nw).toNat)
  case atStart => exact ⟨0, Nat.zero_le _, by congr 1; have := HXX.out; rw [show x + ((0 : Nat) : Int) = x by omega]; exact (Int.emod_eq_of_lt this.1 this.2).symm, World.ownsRow_nil _ _ _ _, HB2.out⟩
  case round =>
    obtain ⟨k, hk, rfl, hown, hbl⟩ := hrel
    obtain ⟨s1, s2, s3, s4, s5, s6⟩ := HS.out k
    have hsu := resK_succ x nw k
    by_cases hlt : k < N
    · have hne : ((x + (k : Int)) % nw != fin) = true := by simpa using s1 hlt
      have q2 : k + 1 ≤ maxLen := by unfold maxLen; have := s3 hk; omega
      have q3 : (k + 1) * 8 ≤ 140737488355328 := by have := s3 hk; omega
      have q4 := hbl.size
      have q5 : w.heap.size ≤ wr.heap.size + 1 := by omega
      have m1 := HME.out k (by have := HN.out; omega)
      have m2 := HME.out (k + 1) (by have := HN.out; omega)
      rw [← s4] at m2
      have HM := phid (And.intro m1 m2)
      have HSU := phid hsu
      have HB := phid hbl
      have HS4 := phid s4
      clear hsu hbl s1 s2 s3 s4 m1 m2
      generalize (x + (k : Int)) % nw = y at *
      go_wp2_with (at_builtin; refine wpList_append_own _ rfl _ _ 54 rfl w.heap.size 3 i0 (.int .i64 0) 1 8 Tryd.underlying54 hi0 hz0 hz1 hz2 rfl (by decide) _ k (i64s (resK x nw k)) rfl (hown.alloc _) ⟨wr.heap.size, 0, none⟩ 1 1 [.int .i64 y] rfl rfl (cell_one_new _ _ _) (by simp [Value.oneCell']) q2 q3 (by simpa using q5) ?_; intro v' w3 hown1 hgrow1 hnil)
      have hb1 : Below w.heap.size w w3 := (HB.out.alloc q4 _).grown hgrow1 (by simpa using q5) (fun r e => ((hown.alloc (.cells #[.int .i64 y] 3)).lt r e).1)
      go_roundw
      case rel => exact ⟨k + 1, by omega, congrArg _ HS4.out, by rw [HSU.out]; simpa [i64s] using hown1, hb1⟩
      case measure => simp only [intOf]; have := HM.out; have := HN.out; omega
    · obtain rfl : k = N := by omega
      have hne : ((x + (k : Int)) % nw != fin) = false := by simpa using s2
      clear s1 s2 s3 s4 hsu
      generalize (x + (k : Int)) % nw = y at *
      go_wp2_with fail
      go_ret2
      exact ⟨_, rfl, by rw [resK_len]; exact hown, hbl⟩
theorem own_nil64 (w : World) (b : Nat) : w.ownsRow b 3 1 (.slice none 0 0) ([] : List Int).length (i64s []) := World.ownsRow_nil w b _ _
set_option maxRecDepth 100000 in
set_option maxHeartbeats 2000000 in
theorem resident_any (x wim nw : Int) (h0 : 0 ≤ wim) (h1 : wim < 4294967296) (w : World) (hb : Bru w) :
    Calls Tryd.prog 31 #[.int .i64 x, .int .u32 wim, .int .i64 nw] w (TellsI (resV x wim nw) (resE x wim nw) w) := by
  have hq := windows_any nw
  by_cases hw : winP nw
  · rw [decide_eq_true hw] at hq
    have hbl := fun W => below_any [x, nw] 1 w.heap.size (by omega) rfl W
    rw [below2_eq] at hbl
    by_cases hx : 0 ≤ x ∧ x < nw
    · by_cases hE : invE wim nw = 0
      · exact resident_loop x wim nw h0 h1 hw hx hE w hb
      · rw [decide_eq_true hx] at hbl
        have hi := invalid_any wim nw h0 h1
        have E := phid (show resV x wim nw = [] ∧ resE x wim nw = invE wim nw from ⟨if_neg (fun h => hE h.2), if_pos ⟨hw, hx⟩⟩)
        have hne : (invE wim nw != 0) = true := by simpa using hE
        have H1 := phid hq
        have HB := phid hbl
        have HI := phid hi
        have BR := phid hb
        clear hq hbl hi hb hw hx hE
        generalize invE wim nw = er at *
        go_enter Tryd.func31, Tryd.ntmps31
        go_wp2_with fail
        refine (H1.out _).mono ?_
        rintro e w' ⟨rfl, rfl⟩
        go_wp2_with fail
        refine (HB.out _ ?_).mono ?_
        · intro k hk
          have : k = 0 ∨ k = 1 := by simp at hk; omega
          rcases this with rfl | rfl <;> simp [go_sem]
        rintro e w1 ⟨rfl, hB⟩
        have HB1 := phid (pbt (pbal _ _) hB)
        clear hB
        go_wp2_with fail
        refine (HI.out _ (BR.out.keep HB1.out)).mono ?_
        rintro e w2 ⟨rfl, hB⟩
        have HB2 := phid (pbt HB1.out hB)
        clear hB HI BR HB1 HB H1
        go_wp2_with fail
        go_ret2
        exact ⟨.slice none 0 0, by rw [E.out.2]; rfl, by rw [E.out.1]; exact own_nil64 _ _, HB2.out⟩
    · rw [decide_eq_false hx] at hbl
      have hn : ¬ okW x nw := fun h => hx h.2
      have E := phid (show resV x wim nw = [] ∧ resE x wim nw = 2 from ⟨if_neg (fun h => hn h.1), if_neg hn⟩)
      have H1 := phid hq
      have HB := phid hbl
      clear hq hbl hb hw hx hn
      go_enter Tryd.func31, Tryd.ntmps31
      go_wp2_with fail
      refine (H1.out _).mono ?_
      rintro e w' ⟨rfl, rfl⟩
      go_wp2_with fail
      refine (HB.out _ ?_).mono ?_
      · intro k hk
        have : k = 0 ∨ k = 1 := by simp at hk; omega
        rcases this with rfl | rfl <;> simp [go_sem]
      rintro e w1 ⟨rfl, hB⟩
      have HB1 := phid (pbt (pbal _ _) hB)
      clear hB
      go_wp2_with fail
      go_ret2
      exact ⟨.slice none 0 0, by rw [E.out.2]; rfl, by rw [E.out.1]; exact own_nil64 _ _, HB1.out⟩
  · rw [decide_eq_false hw] at hq
    have hn : ¬ okW x nw := fun h => hw h.1
    have E := phid (show resV x wim nw = [] ∧ resE x wim nw = 2 from ⟨if_neg (fun h => hn h.1), if_neg hn⟩)
    have H1 := phid hq
    clear hq hb hw hn
    go_enter Tryd.func31, Tryd.ntmps31
    go_wp2_with fail
    refine (H1.out _).mono ?_
    rintro e w' ⟨rfl, rfl⟩
    go_wp2_with fail
    go_ret2
    exact ⟨.slice none 0 0, by rw [E.out.2]; rfl, by rw [E.out.1]; exact own_nil64 _ _, Below.refl _ _⟩
end Go.Proofs.YtilegepenibeoaaDoor
