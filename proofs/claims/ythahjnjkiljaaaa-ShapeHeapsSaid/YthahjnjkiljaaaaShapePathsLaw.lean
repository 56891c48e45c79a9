/- What a program that may be says of its paths. No function of the program is walked here. -/
import Derived.Test.YthahjnjkiljaaaaShapeLaw
namespace Go.Proofs.Ythahjnjkiljaaaa
open Go.RowKit
set_option linter.unusedVariables false
set_option linter.unusedSimpArgs false
/-- All blocks read nothing that is not surely there. -/
def MissOk (fs : List Fnx) : Prop := ∀ (n : Nat) x, fs[n]? = some x → ∀ i, i < x.blocks.length → missB x.blocks x.args i = false
theorem checkS_may {p : Prg} (h : (checkS p).2.2 = 0) : topB p = true ∧ HeadsOk p.funcs ∧ BlocksOk p.funcs ∧ MissOk p.funcs := by
  unfold checkS at h
  split at h
  · cases h
  · rename_i ht
    split at h
    · cases h
    · rename_i hs
      split at h
      · cases h
      · rename_i hb
        split at h
        · cases h
        · rename_i hm
          have h1 := seek_none_iff _ _ hs
          have h2 := seek2_none_iff _ _ hb
          have h3 := seek2_none_iff _ _ hm
          refine ⟨by simpa using ht, heads_of fun m hm => h1 m (Nat.zero_le _) (by omega), blocks_of fun m hm q hq => h2 m (Nat.zero_le _) (by omega) q hq, fun n x hx i hi => ?_⟩
          have := h3 n (Nat.zero_le _) (by have := (List.getElem?_eq_some_iff.1 hx).1; omega) i (by rw [nbOf_at hx]; exact hi)
          rw [badMiss_at hx] at this; exact this
theorem checkS_err {p : Prg} (h : (checkS p).2.2 ≠ 0) : (checkS p).2.2 = 140 := by
  unfold checkS at h ⊢
  split
  · rfl
  · rename_i ht
    rw [if_neg ht] at h
    split
    · rfl
    · rename_i hs
      rw [hs] at h
      split
      · rfl
      · rename_i hb
        rw [hb] at h
        split
        · rfl
        · rename_i hm
          rw [hm] at h
          exact absurd rfl h
theorem checkS_of {p : Prg} (h1 : topB p = true) (h2 : HeadsOk p.funcs) (h3 : BlocksOk p.funcs) (h4 : MissOk p.funcs) : checkS p = (0, 0, 0) := by
  refine checkS_ok h1 (fun m hm => ?_) (fun m hm q hq => ?_) (fun m hm q hq => ?_)
  · have hx := List.getElem?_eq_getElem hm
    rw [badHead_at hx, h2 m _ hx]; rfl
  · have hx := List.getElem?_eq_getElem hm
    rw [nbOf_at hx] at hq
    have hb := List.getElem?_eq_getElem hq
    rw [badBlock_at hx hb, h3 m _ hx q _ hb]; rfl
  · have hx := List.getElem?_eq_getElem hm
    rw [nbOf_at hx] at hq
    rw [badMiss_at hx]; exact h4 m _ hx q hq
/-- On a path: what is not there, is lacked so far. -/
structure PathAt (bs : List Blk) (A R : Nat) (a k : Nat) (th : List Bool) : Prop where
  len : th.length = R
  lack : ∀ r : Nat, th[r]? = some false → Lack bs A r a ∧ wrB (insAt bs a) r k = false
theorem path_start (bs : List Blk) (A R : Nat) : PathAt bs A R 0 0 (firstL R A) := by
  refine ⟨firstL_length _ _, fun r hr => ⟨?_, rfl⟩⟩
  have hrR : r < R := by have := (List.getElem?_eq_some_iff.1 hr).1; rwa [firstL_length] at this
  rw [firstL_get hrR] at hr
  simp at hr
  exact .start (by omega)
theorem path_read {bs : List Blk} {A R : Nat} (hbk : BlksOk R bs) (hm : ∀ i, i < bs.length → missB bs A i = false) {a k : Nat} {th : List Bool} (h : PathAt bs A R a k th) (ha : a < bs.length) {x : Insx} (hx : (insAt bs a)[k]? = some x) {r : Nat} (hr : (r : Int) ∈ readsS x) : th[r]? = some true := by
  obtain ⟨h0, h1⟩ := (hbk.names a x (List.mem_of_getElem? hx)).1 _ hr
  have hlt : r < th.length := by rw [h.len]; omega
  obtain ⟨y, hy⟩ : ∃ y, th[r]? = some y := ⟨_, List.getElem?_eq_getElem hlt⟩
  cases y with
  | true => exact hy
  | false =>
    obtain ⟨l1, l2⟩ := h.lack r hy
    have hmb : missB bs A a = true := by
      unfold missB
      rw [List.any_eq_true]
      have hk : k < (insAt bs a).length := (List.getElem?_eq_some_iff.1 hx).1
      refine ⟨k, List.mem_range.2 hk, ?_⟩
      unfold missAt
      rw [hx]
      simp only [List.any_eq_true, Bool.and_eq_true, Bool.not_eq_true']
      refine ⟨r, hr, ?_, l2⟩
      unfold lackF
      rw [Int.toNat_natCast, (lacks_iff hbk.flow hbk.some a).2 l1]
      rfl
    rw [hm a ha] at hmb
    cases hmb
theorem wrB_succ {l : List Insx} {k : Nat} {x : Insx} (hx : l[k]? = some x) (r : Int) : wrB l r (k + 1) = (wrB l r k || (writesB x && decide (writesD x = r))) := by
  unfold wrB
  rw [stake_get hx, List.any_append]
  simp
theorem path_write {bs : List Blk} {A R : Nat} (hbk : BlksOk R bs) {a k : Nat} {th : List Bool} (h : PathAt bs A R a k th) {x : Insx} (hx : (insAt bs a)[k]? = some x) : PathAt bs A R a (k + 1) (wr1 th x) := by
  refine ⟨by rw [wr1_length]; exact h.len, fun r hr => ?_⟩
  unfold wr1 at hr
  rw [wrB_succ hx]
  split at hr
  · rename_i hw
    have h0 := ((hbk.names a x (List.mem_of_getElem? hx)).2 hw).1
    by_cases e : x.d.toNat = r
    · subst e
      rw [List.getElem?_set_self'] at hr
      cases hs : th[x.d.toNat]? <;> rw [hs] at hr <;> simp at hr
    · rw [List.getElem?_set_ne e] at hr
      obtain ⟨l1, l2⟩ := h.lack r hr
      refine ⟨l1, ?_⟩
      rw [l2, show writesD x = x.d from if_pos hw, decide_eq_false (by omega)]; simp
  · rename_i hw
    obtain ⟨l1, l2⟩ := h.lack r hr
    refine ⟨l1, ?_⟩
    rw [l2]; simp [hw]
theorem path_go {bs : List Blk} {A R : Nat} (hbk : BlksOk R bs) {a k : Nat} {th : List Bool} (h : PathAt bs A R a k th) (hk : k = (insAt bs a).length) {j : Int} (hj : j ∈ goesOf bs a) : PathAt bs A R j.toNat 0 th :=
  ⟨h.len, fun r hr => by
    obtain ⟨l1, l2⟩ := h.lack r hr
    rw [hk] at l2
    exact ⟨.next a j l1 l2 hj, rfl⟩⟩
theorem goes_last {bs : List Blk} {a k : Nat} {x : Insx} (hx : (insAt bs a)[k]? = some x) (hk : k + 1 = (insAt bs a).length) : goesOf bs a = goesS x := by
  unfold goesOf
  rw [← hk, Nat.add_sub_cancel, hx]; rfl
end Go.Proofs.Ythahjnjkiljaaaa
