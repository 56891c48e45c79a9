/- Several texts in one: WindAlike, Ref6, Ref6New. -/
import Derived.Test.YtajholbcpmjhiaaGreatDoorH01
import Derived.Test.YtajholbcpmjhiaaGreatDoorH02
import Derived.Test.YtajholbcpmjhiaaGreatDoorH03
import Derived.Test.YtajholbcpmjhiaaGreatDoorH04
import Derived.Test.YtajholbcpmjhiaaGreatDoorH05
import Derived.Test.YtajholbcpmjhiaaGreatDoorH06
import Derived.Test.YtajholbcpmjhiaaGreatDoorH07
import Derived.Test.YtajholbcpmjhiaaGreatDoorH08
import Derived.Test.YtajholbcpmjhiaaGreatDoorH09
import Derived.Test.YtajholbcpmjhiaaGreatDoorH10
import Derived.Test.YtajholbcpmjhiaaGreatDoorH11
import Derived.Test.YtajholbcpmjhiaaGreatDoorH12
import Derived.Test.YtajholbcpmjhiaaGreatDoorH13
import Derived.Test.YtajholbcpmjhiaaGreatDoorH14
import Derived.Test.YtajholbcpmjhiaaGreatDoorH15
import Derived.Test.YtajholbcpmjhiaaGreatDoorH16
import Derived.Test.YtajholbcpmjhiaaGreatDoorH17
import Derived.Test.YtajholbcpmjhiaaGreatDoorH18
import Derived.Test.YtajholbcpmjhiaaGreatDoorH19
import Derived.Test.YtajholbcpmjhiaaGreatDoorH20
import Derived.Test.YtajholbcpmjhiaaGreatDoorH21
import Derived.Test.YtajholbcpmjhiaaGreatDoorH22
import Derived.Test.YtajholbcpmjhiaaGreatDoorH23
import Derived.Test.YtajholbcpmjhiaaGreatDoorH24
import Derived.Test.YtajholbcpmjhiaaGreatDoorH25
import Derived.Test.YtajholbcpmjhiaaGreatDoorH26
import Derived.Test.YtajholbcpmjhiaaGreatDoorH27
import Derived.Test.YtajholbcpmjhiaaGreatDoorH28
import Derived.Test.YtajholbcpmjhiaaGreatDoorH29
import Derived.Test.YtajholbcpmjhiaaGreatDoorH30
import Derived.Test.YtajholbcpmjhiaaGreatDoorH31
import Derived.Test.YtajholbcpmjhiaaGreatDoorH33
import Derived.Test.YtajholbcpmjhiaaGreatDoorH35
import Derived.Test.YtajholbcpmjhiaaGreatDoorH36
import Derived.Test.YtajholbcpmjhiaaGreatDoorH37
import Derived.Test.YtajholbcpmjhiaaGreatDoorH38
import Derived.Test.YtajholbcpmjhiaaGreatDoorH39
import Derived.Test.YtajholbcpmjhiaaGreatDoorH40
import Derived.Test.YtajholbcpmjhiaaGreatDoorH41
import Derived.WalkKit
import Derived.Laws.AppendOwn
import Derived.Below
import Derived.Deep.QuietTactic
import Derived.BigQuiet
import Derived.WalkSpells
import Derived.Test.YtajholbcpmjhiaaGreatDoorProg
import Derived.Handy
import Derived.WalkLawsBesides
import Derived.RegionTactic
import Derived.Outline
import Derived.Lib.BitFns
import Derived.StillTailTactics
import Derived.BigRegion
import Derived.ChangeAlike
import Derived.Maps.OwnSet
import Derived.Maps.Views
import Derived.Laws.AppendOwnNone
import Derived.WalkArith
import Derived.OneCell
import Derived.ArgAppend
import Derived.Lib.SliceRun
import Derived.Laws.Rows
import Derived.IntWalk
import Derived.Laws.CopyOwn
import Derived.Great.Ranges
import Derived.ProofKit
import Derived.OpenShut
import Derived.RangeFuncNested
import Derived.RangeFuncBound
import Derived.RangeFuncCalls
import Derived.RangeFuncLeaves
import Derived.Shelf.Abstract
import Derived.Shelf.RegionOpen
import Derived.OwnWalkIn
import Derived.TacticsInMore
import Derived.LoopNIn
import Derived.LoopIn
import Derived.RegionIn
import Derived.Deep.RegionHeld
import Derived.Deep.RegionHeld3
import Derived.Deep.Cut
import Derived.Laws.EntriesVeiled
import Derived.Deep.RegionLaw
import Derived.Deep.AppendLies
import Derived.Maps.AppendAt
import Derived.Deep.OwnRows
/- Plain law: a turn that trapped is what the document says. No program in sight. -/
namespace Go.Proofs.YtajholbcpmjhiaaGreatDoor
open Go.RowKit
set_option linter.unusedVariables false
set_option linter.unusedSimpArgs false
theorem getV_row {f : Fx} (h2 : 2 ≤ f.nw) {w : Nat} (hw : w < f.nw) : getV f w 0 14 = (winV f ((w + f.nw - 1) % f.nw : Nat)).getD 14 0 := by
  rw [getV_out h2 hw, winV_nat (Nat.mod_lt _ (by omega))]
  unfold winR
  rw [List.getD_eq_getElem?_getD, List.getD_eq_getElem?_getD, List.getElem?_take_of_lt (by decide), List.getElem?_drop]
theorem FLike.out {f g : Fx} (h : FLike f g) (h2 : 2 ≤ g.nw) {w : Nat} (hw : w < g.nw) : getV f w 0 14 = getV g w 0 14 := by
  rw [getV_row h2 hw, getV_row (by rw [h.nw]; exact h2) (by rw [h.nw]; exact hw), h.nw, h.win _ (Nat.mod_lt _ (by omega))]
theorem take_getD {a b : List Int} {n : Nat} (h : a.take n = b.take n) {i : Nat} (hi : i < n) : a.getD i 0 = b.getD i 0 := by
  rw [List.getD_eq_getElem?_getD, List.getD_eq_getElem?_getD, ← List.getElem?_take_of_lt hi, ← List.getElem?_take_of_lt hi (l := b), h]
theorem glob_like {f g : Fx} (hf : f.ok) (hg : g.ok) (h : f.glo.take 128 = g.glo.take 128) {k r : Nat} (hk : k < 16) (hr : r < 8) : getV f 0 k r = getV g 0 k r := by
  rw [getV_glob hf (by omega) hr, getV_glob hg (by omega) hr, take_getD h (by omega)]
theorem alike_over {m m' : Mx} (hok : m.ok) {c cw : Nat} {pil fl kk : Int} {f1 f2 : Fx} (hcw : cw < m.f.nw) (h1 : FLike f1 m.f) (ho1 : f1.ok) (h2 : FLike f2 m'.f)
    {room : Nat} (hr : room ≤ m.mem.length) (hsp : FrOk m.f m.f.nw room) (ha : After m m' c ((cw + m.f.nw - 1) % m.f.nw) ((cw + m.f.nw - 2) % m.f.nw) pil fl) (hw : m'.f.win = m.f.win) (hm : m'.mem = putS m.mem (frM m ((cw + m.f.nw - 2) % m.f.nw)) (winR m.f ((cw + m.f.nw - 2) % m.f.nw))) :
    Alike8 ⟨f2, m'.mem, m'.p.cwp, ((cw + m.f.nw - 2) % m.f.nw : Nat)⟩ (save8 ⟨f1, m.mem, cw, kk⟩) ∧ can8 ⟨f1, m.mem, cw, kk⟩ (save8 ⟨f1, m.mem, cw, kk⟩).inv = true := by
  have hn2 := hok.f.nw2
  have hn32 := hok.f.nw32
  have hll : (cw + m.f.nw - 2) % m.f.nw < m.f.nw := Nat.mod_lt _ (by omega)
  have e1 : stepV (cw : Int) ((f1.nw : Int) - 1) f1.nw = (((cw + m.f.nw - 1) % m.f.nw : Nat) : Int) := by rw [h1.nw]; exact step_pred hn2 hn32 hcw
  have e2 : stepV (stepV (cw : Int) ((f1.nw : Int) - 1) f1.nw) ((f1.nw : Int) - 1) f1.nw = (((cw + m.f.nw - 2) % m.f.nw : Nat) : Int) := by
    rw [e1, h1.nw, step_pred hn2 hn32 (Nat.mod_lt _ (by omega)), less_two hcw hn2]
  obtain ⟨a1, a2, a3, a4⟩ := hsp.frM hll hll
  have ef : frame8 ⟨f1, m.mem, cw, kk⟩ (((cw + m.f.nw - 2) % m.f.nw : Nat) : Int) = frM m ((cw + m.f.nw - 2) % m.f.nw) := (h1.out hn2 hll).trans a1
  have hlen : (winR m.f ((cw + m.f.nw - 2) % m.f.nw)).length = 16 := winR_len hok.f hll
  have hsp16 : spanE m.mem.length (frM m ((cw + m.f.nw - 2) % m.f.nw) : Nat) ((16 : Nat) : Int) 4 = 0 := spanE_row _ _ _ a3 (by omega)
  refine ⟨⟨?_, ?_, ?_, ?_, ?_, ?_⟩, ?_⟩
  · show f2.nw = f1.nw
    rw [h2.nw, ha.nw, h1.nw]
  · show m'.p.cwp = _
    rw [ha.p]; exact e1.symm
  · exact e2.symm
  · show m'.mem = putV m.mem (frame8 ⟨f1, m.mem, cw, kk⟩ _) (winV f1 _)
    simp only [e2]
    rw [ef, h1.win _ hll, winV_nat hll, hm]
    unfold putV
    rw [hlen, if_pos hsp16, Int.toNat_natCast]
  · intro w hw'
    show winV f2 w = winV f1 w
    have hw2 : w < m.f.nw := by have : w < f2.nw := hw'; rw [h2.nw, ha.nw] at this; exact this
    rw [h2.win w (by rw [ha.nw]; exact hw2), h1.win w hw2, winV_nat (by rw [ha.nw]; exact hw2), winV_nat hw2]
    unfold winR; rw [hw]
  · intro k r hk hr'
    show getV f2 0 k r = getV f1 0 k r
    rw [h2.glo k r hk hr', h1.glo k r hk hr', glob_like ha.ok.f hok.f ha.glo hk hr']
  · show can8 ⟨f1, m.mem, cw, kk⟩ (stepV (stepV (cw : Int) ((f1.nw : Int) - 1) f1.nw) ((f1.nw : Int) - 1) f1.nw) = true
    rw [e2]
    unfold can8
    rw [ef]
    exact decide_eq_true hsp16
theorem alike_under {m m' : Mx} (hok : m.ok) {c cw : Nat} {pil fl kk : Int} {f1 f2 : Fx} (hcw : cw < m.f.nw) (h1 : FLike f1 m.f) (ho1 : f1.ok) (h2 : FLike f2 m'.f)
    {room : Nat} (hr : room ≤ m.mem.length) (hsp : FrOk m.f m.f.nw room) (ha : After m m' c ((cw + 1) % m.f.nw) (((cw + 1) % m.f.nw + 1) % m.f.nw) pil fl) (hw : m'.f.win = setW m.f.win ((cw + 1) % m.f.nw) (wordsS m.mem (frM m ((cw + 1) % m.f.nw)) 16)) (hm : m'.mem = m.mem) :
    Alike8 ⟨f2, m'.mem, m'.p.cwp, (((cw + 1) % m.f.nw + 1) % m.f.nw : Nat)⟩ (rest8 ⟨f1, m.mem, cw, kk⟩) ∧ can8 ⟨f1, m.mem, cw, kk⟩ (rest8 ⟨f1, m.mem, cw, kk⟩).cwp = true := by
  have hn2 := hok.f.nw2
  have hn32 := hok.f.nw32
  have hll : (cw + 1) % m.f.nw < m.f.nw := Nat.mod_lt _ (by omega)
  have e1 : stepV (cw : Int) 1 f1.nw = (((cw + 1) % m.f.nw : Nat) : Int) := by rw [h1.nw]; exact step_succ hn2 hn32 hcw
  have e2 : stepV (stepV (cw : Int) 1 f1.nw) 1 f1.nw = ((((cw + 1) % m.f.nw + 1) % m.f.nw : Nat) : Int) := by
    rw [e1, h1.nw, step_succ hn2 hn32 hll]
  obtain ⟨a1, a2, a3, a4⟩ := hsp.frM hll hll
  have ef : frame8 ⟨f1, m.mem, cw, kk⟩ (((cw + 1) % m.f.nw : Nat) : Int) = frM m ((cw + 1) % m.f.nw) := (h1.out hn2 hll).trans a1
  have hsp16 : spanE m.mem.length (frM m ((cw + 1) % m.f.nw) : Nat) ((16 : Nat) : Int) 4 = 0 := spanE_row _ _ _ a3 (by omega)
  generalize hl : wordsS m.mem (frM m ((cw + 1) % m.f.nw)) 16 = l at *
  have hlen : l.length = 16 := by rw [← hl]; unfold wordsS; simp
  have hll1 : (cw + 1) % m.f.nw < f1.nw := by rw [h1.nw]; exact hll
  have hF : (rest8 ⟨f1, m.mem, cw, kk⟩).f = { f1 with win := setW f1.win ((cw + 1) % m.f.nw) l } := by
    show setsF f1 (stepV (cw : Int) 1 f1.nw) (wordsS m.mem (frame8 ⟨f1, m.mem, cw, kk⟩ (stepV (cw : Int) 1 f1.nw)).toNat 16) 16 = _
    rw [e1, ef, Int.toNat_natCast, hl]
    exact setsF_all ho1 hll1 hlen
  have hFk : (rest8 ⟨f1, m.mem, cw, kk⟩).f.ok := by
    have hws : Words l := by rw [← hl]; exact wordsS_words hok.bytes _ _
    show (setsF f1 (stepV (cw : Int) 1 f1.nw) (wordsS m.mem (frame8 ⟨f1, m.mem, cw, kk⟩ (stepV (cw : Int) 1 f1.nw)).toNat 16) 16).ok
    rw [e1, ef, Int.toNat_natCast, hl]
    exact setsF_ok ho1 _ hws 16
  refine ⟨⟨?_, ?_, ?_, ?_, ?_, ?_⟩, ?_⟩
  · rw [hF]; show f2.nw = f1.nw
    rw [h2.nw, ha.nw, h1.nw]
  · show m'.p.cwp = _
    rw [ha.p]; exact e1.symm
  · exact e2.symm
  · show m'.mem = m.mem
    exact hm
  · intro w hw'
    show winV f2 w = winV (rest8 ⟨f1, m.mem, cw, kk⟩).f w
    have hw2 : w < m.f.nw := by have : w < f2.nw := hw'; rw [h2.nw, ha.nw] at this; exact this
    have hw1 : w < f1.nw := by rw [h1.nw]; exact hw2
    have hw3 : w < m'.f.nw := by rw [ha.nw]; exact hw2
    rw [h2.win w hw3, winV_nat hw3, hF, winV_nat (show w < ({ f1 with win := setW f1.win ((cw + 1) % m.f.nw) l } : Fx).nw from hw1), winR_setW ho1 hll1 hlen w hw1]
    have e : winR m'.f w = winR { m.f with win := setW m.f.win ((cw + 1) % m.f.nw) l } w := by unfold winR; rw [hw]
    rw [e, winR_setW hok.f hll hlen w hw2]
    split
    · rfl
    · rw [← winV_nat hw1, ← winV_nat hw2, h1.win w hw2]
  · intro k r hk hr'
    show getV f2 0 k r = getV (rest8 ⟨f1, m.mem, cw, kk⟩).f 0 k r
    rw [h2.glo k r hk hr', glob_like ha.ok.f hok.f ha.glo hk hr', ← h1.glo k r hk hr']
    exact glob_like ho1 hFk (by rw [hF]) hk hr'
  · show can8 ⟨f1, m.mem, cw, kk⟩ (stepV (cw : Int) 1 f1.nw) = true
    rw [e1]
    unfold can8
    rw [ef]
    exact decide_eq_true hsp16
end Go.Proofs.YtajholbcpmjhiaaGreatDoor
/- The document's machine (muntinref06) as a value. No function of the program is walked here. -/
namespace Go.Proofs.YtajholbcpmjhiaaGreatDoor
open Go.RowKit
set_option linter.unusedVariables false
set_option linter.unusedSimpArgs false
theorem MChAt.keepb {w w' : World} {v : Value} {l : List Int} (h : MChAt w v l) (hb : Below w.heap.size w w') : MChAt w' v l := ⟨h.1.keepb hb, h.2⟩
theorem MChAt.shape {w : World} {v : Value} {l : List Int} (h : MChAt w v l) : ∃ p c, v = .slice p l.length c := by
  obtain ⟨h1, p, c, h2, _⟩ := h.1; exact ⟨p, c, h2⟩
/-- All cells of a box, stored. -/
def fillW (w : World) (X : Nat) : List Value → Nat → World
  | [], _ => w
  | v :: vs, k => fillW (w.setCell ⟨X, k, none⟩ v) X vs (k + 1)
theorem fillW_row {X : Nat} {T : TypeId} : ∀ (vs : List Value) (k : Nat) (w : World) (zs : List Value), ARow w X T zs → k + vs.length ≤ zs.length → ARow (fillW w X vs k) X T (zs.take k ++ vs ++ zs.drop (k + vs.length))
  | [], k, w, zs, h, hl => by
    show ARow w X T _
    simpa using h
  | v :: vs, k, w, zs, h, hl => by
    simp only [List.length_cons] at hl
    have h1 := fillW_row vs (k + 1) _ _ (h.set k v) (by rw [List.length_set]; omega)
    have e : (zs.set k v).take (k + 1) ++ vs ++ (zs.set k v).drop (k + 1 + vs.length) = zs.take k ++ (v :: vs) ++ zs.drop (k + (v :: vs).length) := by
      rw [List.take_set, List.drop_set, if_pos (by omega)]
      rw [List.take_add_one, List.getElem?_eq_getElem (by omega : k < zs.length)]
      rw [show k + (v :: vs).length = k + 1 + vs.length by simp; omega]
      have h2 : (zs.take k ++ (some zs[k]).toList).set k v = zs.take k ++ [v] := by
        rw [List.set_append_right _ _ (by rw [List.length_take]; omega)]
        simp [List.length_take, Nat.min_eq_left (by omega : k ≤ zs.length)]
      rw [h2]; simp
    rw [e] at h1
    exact h1
/-- The whole box, anew. -/
theorem ARow.fill {w : World} {X : Nat} {T : TypeId} {zs : List Value} (h : ARow w X T zs) (vs : List Value) (hl : zs.length = vs.length) : ARow (fillW w X vs 0) X T vs := by
  have h1 := fillW_row vs 0 w zs h (by omega)
  rw [List.drop_eq_nil_of_le (by omega)] at h1
  simpa using h1
end Go.Proofs.YtajholbcpmjhiaaGreatDoor
/- The walks of muntinref03.New and muntinref06.New. -/
namespace Go.Proofs.YtajholbcpmjhiaaGreatDoor
open Go.RowKit
set_option linter.unusedVariables false
set_option linter.unusedSimpArgs false
theorem rf_new_ok (n : Nat) (h2 : 2 ≤ n) (h32 : n ≤ 32) (w : World) : Calls Tryz.prog 67 #[.int .i64 n] w fun e w' => e = .returned (.tuple #[.agg #[.int .i64 n, .slice none 0 0], .int .i64 0]) ∧ Below w.heap.size w w' := by
  have c1 : ¬ ((n : Int) < 2) := by omega
  have c2 : ¬ ((n : Int) > 32) := by omega
  have c3 : ¬ (32 < (n : Int)) := by omega
  go_enter Tryz.func67, Tryz.ntmps67
  go_wp2_with fail
  have hR := ARow.fresh w 55 #[.int .i64 n, .slice none 0 0]
  have s0 := hR.cell (k := 0) rfl
  have s1 := hR.cell (k := 1) rfl
  have hb : Below w.heap.size w (w.alloc (.cells #[.int .i64 n, .slice none 0 0] 55)) := (Below.refl _ _).alloc (Nat.le_refl _) _
  clear hR
  generalize w.alloc (.cells #[.int .i64 n, .slice none 0 0] 55) = W at *
  refine bodyPost_ret (by simp [results, Tryz.results67, go_sem, s0, s1]; try rfl) rfl ?_
  exact ⟨rfl, hb⟩
end Go.Proofs.YtajholbcpmjhiaaGreatDoor
