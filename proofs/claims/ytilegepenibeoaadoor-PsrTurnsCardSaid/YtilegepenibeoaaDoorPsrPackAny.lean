/- psr.Pack, whatever the state and the windows are. -/
import Derived.Test.YtilegepenibeoaaDoorPsrPack
namespace Go.Proofs.YtilegepenibeoaaDoor
open Go.RowKit Go.Shelf
set_option linter.unusedVariables false
set_option linter.unusedSimpArgs false
set_option maxRecDepth 100000 in
set_option maxHeartbeats 1000000 in
theorem pack_any (p : Px) (hb : p.bd) (nw : Int) (w : World) :
    Calls Tryd.prog 18 #[p.agg, .int .i64 nw] w fun e w' => e = .returned (.tuple #[.int .u32 (packS p nw), .int .i64 (packE p nw)]) ∧ Below w.heap.size w w' := by
  by_cases h : winP nw ∧ pmayP p nw
  · rw [show packS p nw = packW p from if_pos h, show packE p nw = 0 from if_pos h]
    exact pack_yes p hb nw h.1 h.2 w
  · rw [show packS p nw = 0 from if_neg h, show packE p nw = 2 from if_neg h]
    have hq := windows_any nw
    by_cases hw : winP nw
    · have hm := pmay_any p hb nw
      rw [decide_eq_true hw] at hq
      rw [decide_eq_false (fun hm => h ⟨hw, hm⟩)] at hm
      have H1 := phid hq
      have H2 := phid hm
      clear hq hm hw h hb
      obtain ⟨cwp, pil, bank, flags⟩ := p
      go_enter Tryd.func18, Tryd.ntmps18
      go_wp2_with fail
      refine (H1.out _).mono ?_
      rintro e w' ⟨rfl, rfl⟩
      go_wp2_with fail
      refine (H2.out _).mono ?_
      rintro e w' ⟨rfl, hB⟩
      have HB := phid hB
      clear hB
      go_wp2_with fail
      go_ret2
      exact ⟨rfl, pbt (pbal _ _) HB.out⟩
    · rw [decide_eq_false hw] at hq
      have H1 := phid hq
      clear hq hw h hb
      obtain ⟨cwp, pil, bank, flags⟩ := p
      go_enter Tryd.func18, Tryd.ntmps18
      go_wp2_with fail
      refine (H1.out _).mono ?_
      rintro e w' ⟨rfl, rfl⟩
      go_wp2_with fail
      go_ret2
      exact ⟨rfl, by go_grown⟩
end Go.Proofs.YtilegepenibeoaaDoor
