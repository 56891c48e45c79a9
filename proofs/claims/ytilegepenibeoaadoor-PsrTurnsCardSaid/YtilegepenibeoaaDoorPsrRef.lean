/- Walks of the document's Pack and Unpack (muntinref04). -/
import Derived.Test.YtilegepenibeoaaDoorPsrWalks
namespace Go.Proofs.YtilegepenibeoaaDoor
open Go.RowKit
set_option linter.unusedVariables false
set_option linter.unusedSimpArgs false
theorem rwindows_any (nw : Int) (w : World) : Calls Tryd.prog 60 #[.int .i64 nw] w fun e w' => e = .returned (.bool (decide (winP nw))) ∧ w = w' := by
  by_cases h1 : 2 ≤ nw
  · by_cases h2 : nw ≤ 32
    · have e1 : decide (2 ≤ nw) = true := by simpa using h1
      have e2 : decide (nw ≤ 32) = true := by simpa using h2
      have E := phid (show decide (winP nw) = true from decide_eq_true ⟨h1, h2⟩)
      clear h1 h2
      go_enter Tryd.func60, Tryd.ntmps60
      go_wp2
      go_ret
      exact ⟨pretb E.out.symm, rfl⟩
    · have e1 : decide (2 ≤ nw) = true := by simpa using h1
      have e2 : decide (nw ≤ 32) = false := by simpa using h2
      have E := phid (show decide (winP nw) = false from decide_eq_false (fun h => h2 h.2))
      clear h1 h2
      go_enter Tryd.func60, Tryd.ntmps60
      go_wp2
      go_ret
      exact ⟨pretb E.out.symm, rfl⟩
  · have e1 : decide (2 ≤ nw) = false := by simpa using h1
    have E := phid (show decide (winP nw) = false from decide_eq_false (fun h => h1 h.1))
    clear h1
    go_enter Tryd.func60, Tryd.ntmps60
    go_wp2
    go_ret
    exact ⟨pretb E.out.symm, rfl⟩
set_option maxHeartbeats 1000000 in
theorem rpmay_any (p : Px) (hb : p.bd) (nw : Int) (w : World) : Calls Tryd.prog 61 #[p.agg, .int .i64 nw] w fun e w' => e = .returned (.bool (decide (pmayP p nw))) ∧ Below w.heap.size w w' := by
  have E := phid (show ∀ b : Bool, (b = true ↔ pmayP p nw) → b = decide (pmayP p nw) from fun b h => by rw [Bool.eq_iff_iff, decide_eq_true_iff]; exact h)
  obtain ⟨cwp, pil, bank, flags⟩ := p
  obtain ⟨b0, b1, b2, b3⟩ := hb
  simp only at b0 b1 b2 b3
  go_enter Tryd.func61, Tryd.ntmps61
  go_wp2
  all_goals
    go_ret
    refine ⟨pretb (E.out _ ?_), pbal _ _⟩
    simp [pmayP]
    omega
theorem rpack_any (p : Px) (hb : p.bd) (nw : Int) (w : World) :
    Calls Tryd.prog 19 #[p.agg, .int .i64 nw] w fun e w' => e = .returned (.tuple #[.int .u32 (packS p nw), .int .i64 (packE p nw)]) ∧ Below w.heap.size w w' := by
  have hq := rwindows_any nw
  have hm := rpmay_any p hb nw
  by_cases hw : winP nw
  · by_cases hm2 : pmayP p nw
    · rw [show packS p nw = packW p from if_pos ⟨hw, hm2⟩, show packE p nw = 0 from if_pos ⟨hw, hm2⟩]
      rw [decide_eq_true hw] at hq
      rw [decide_eq_true hm2] at hm
      have H1 := phid hq
      have H2 := phid hm
      have hbd := pack_bd hb hw hm2
      obtain ⟨cwp, pil, bank, flags⟩ := p
      obtain ⟨b0, b1, b2, b3⟩ := hb
      simp only at b0 b1 b2 b3
      have E := phid (show packW ⟨cwp, pil, bank, flags⟩ = cwp + 32 * pil + 512 * bank + 16384 * flags from rfl)
      have c1 : cwp + 32 * pil + 512 * bank + 16384 * flags < 4294967296 := by have := hbd.2; rw [E.out] at this; omega
      clear hq hm hw hm2 hbd
      go_enter Tryd.func19, Tryd.ntmps19
      go_wp2_with fail
      refine (H1.out _).mono ?_
      rintro e w' ⟨rfl, rfl⟩
      go_wp2_with fail
      refine (H2.out _).mono ?_
      rintro e w1 ⟨rfl, hB⟩
      have x0 := (hB.cell (p := ⟨w.heap.size, 0, none⟩) (by simp)).trans (show _ = some (.int .u8 cwp) by simp)
      have x1 := (hB.cell (p := ⟨w.heap.size, 1, none⟩) (by simp)).trans (show _ = some (.int .u8 pil) by simp)
      have x2 := (hB.cell (p := ⟨w.heap.size, 2, none⟩) (by simp)).trans (show _ = some (.int .u8 bank) by simp)
      have x3 := (hB.cell (p := ⟨w.heap.size, 3, none⟩) (by simp)).trans (show _ = some (.int .u8 flags) by simp)
      have HB := phid hB
      clear hB
      go_wp2_with fail
      go_ret2
      exact ⟨pret2 (by rw [E.out]) rfl, pbt (pbal _ _) HB.out⟩
    · rw [show packS p nw = 0 from if_neg (fun h => hm2 h.2), show packE p nw = 2 from if_neg (fun h => hm2 h.2)]
      rw [decide_eq_true hw] at hq
      rw [decide_eq_false hm2] at hm
      have H1 := phid hq
      have H2 := phid hm
      clear hq hm hw hm2 hb
      obtain ⟨cwp, pil, bank, flags⟩ := p
      go_enter Tryd.func19, Tryd.ntmps19
      go_wp2_with fail
      refine (H1.out _).mono ?_
      rintro e w' ⟨rfl, rfl⟩
      go_wp2_with fail
      refine (H2.out _).mono ?_
      rintro e w' ⟨rfl, hB⟩
      have HB := phid hB
      clear hB
      go_wp2_with fail
      go_ret2
      exact ⟨rfl, pbt (pbal _ _) HB.out⟩
  · rw [show packS p nw = 0 from if_neg (fun h => hw h.1), show packE p nw = 2 from if_neg (fun h => hw h.1)]
    rw [decide_eq_false hw] at hq
    have H1 := phid hq
    clear hq hw hb hm
    obtain ⟨cwp, pil, bank, flags⟩ := p
    go_enter Tryd.func19, Tryd.ntmps19
    go_wp2_with fail
    refine (H1.out _).mono ?_
    rintro e w' ⟨rfl, rfl⟩
    go_wp2_with fail
    go_ret2
    exact ⟨rfl, by go_grown⟩
set_option maxRecDepth 100000 in
set_option maxHeartbeats 1000000 in
theorem runpack_any (w0 : Int) (h0 : 0 ≤ w0) (h1 : w0 < 4294967296) (nw : Int) (w : World) :
    Calls Tryd.prog 21 #[.int .u32 w0, .int .i64 nw] w fun e w' => e = .returned (.tuple #[(unS w0 nw).agg, .int .i64 (unE w0 nw)]) ∧ Below w.heap.size w w' := by
  have hq := rwindows_any nw
  by_cases hw : winP nw
  · rw [decide_eq_true hw] at hq
    have H1 := phid hq
    by_cases hb : w0 < 262144
    · have hd : decide (262144 ≤ w0) = false := by simp; omega
      have hm := rpmay_any (unW w0) (un_bd h0) nw
      by_cases hmm : pmayP (unW w0) nw
      · have HX := phid (show unS w0 nw = unW w0 ∧ unE w0 nw = 0 from ⟨if_pos ⟨hw, hb, hmm⟩, by unfold unE; rw [if_pos hw, if_pos ⟨hb, hmm⟩]⟩)
        rw [decide_eq_true hmm] at hm
        have HM := phid hm
        have b0 : 0 ≤ w0 % 32 ∧ w0 % 32 < 32 := by omega
        have b1 : 0 ≤ w0 / 32 % 16 ∧ w0 / 32 % 16 < 16 := by omega
        have b2 : 0 ≤ w0 / 512 % 32 ∧ w0 / 512 % 32 < 32 := by omega
        have b3 : 0 ≤ w0 / 16384 % 16 ∧ w0 / 16384 % 16 < 16 := by omega
        clear hq hm hw hb hmm
        go_enter Tryd.func21, Tryd.ntmps21
        go_wp2_with fail
        refine (H1.out _).mono ?_
        rintro e w' ⟨rfl, rfl⟩
        go_wp2_with fail
        refine (HM.out _).mono ?_
        rintro e w1 ⟨rfl, hB⟩
        have z0 := (hB.cell (p := ⟨w.heap.size, 0, none⟩) (by simp [go_sem])).trans (show _ = some (.int .u8 0) by simp [go_sem])
        have z1 := (hB.cell (p := ⟨w.heap.size, 1, none⟩) (by simp [go_sem])).trans (show _ = some (.int .u8 0) by simp [go_sem])
        have z2 := (hB.cell (p := ⟨w.heap.size, 2, none⟩) (by simp [go_sem])).trans (show _ = some (.int .u8 0) by simp [go_sem])
        have z3 := (hB.cell (p := ⟨w.heap.size, 3, none⟩) (by simp [go_sem])).trans (show _ = some (.int .u8 0) by simp [go_sem])
        have f0 := (hB.frozen (p := ⟨w.heap.size, 0, none⟩) (by simp [go_sem])).trans (show _ = false by simp [go_sem])
        have f1 := (hB.frozen (p := ⟨w.heap.size, 1, none⟩) (by simp [go_sem])).trans (show _ = false by simp [go_sem])
        have f2 := (hB.frozen (p := ⟨w.heap.size, 2, none⟩) (by simp [go_sem])).trans (show _ = false by simp [go_sem])
        have f3 := (hB.frozen (p := ⟨w.heap.size, 3, none⟩) (by simp [go_sem])).trans (show _ = false by simp [go_sem])
        have y0 := (hB.cell (p := ⟨w.heap.size + 1, 0, none⟩) (by simp [go_sem])).trans (show _ = some (.int .u8 (w0 % 32)) by simp [go_sem])
        have y1 := (hB.cell (p := ⟨w.heap.size + 1, 1, none⟩) (by simp [go_sem])).trans (show _ = some (.int .u8 (w0 / 32 % 16)) by simp [go_sem])
        have y2 := (hB.cell (p := ⟨w.heap.size + 1, 2, none⟩) (by simp [go_sem])).trans (show _ = some (.int .u8 (w0 / 512 % 32)) by simp [go_sem])
        have y3 := (hB.cell (p := ⟨w.heap.size + 1, 3, none⟩) (by simp [go_sem])).trans (show _ = some (.int .u8 (w0 / 16384 % 16)) by simp [go_sem])
        have hBB := pbt (pbt (pbal _ _) (pbal _ _)) hB
        have HB := phid hBB
        clear hB hBB
        go_wp2_with fail
        refine bodyPost_ret (by simp [results, Tryd.results21, go_sem, z0, z1, z2, z3]; try rfl) rfl ?_
        have := HB.out
        exact ⟨by rw [HX.out.1, HX.out.2]; rfl, by go_grown⟩
      · have HX := phid (show unS w0 nw = Px.zero ∧ unE w0 nw = 5 from ⟨if_neg (fun h => hmm h.2.2), by unfold unE; rw [if_pos hw, if_neg (fun h => hmm h.2)]⟩)
        rw [decide_eq_false hmm] at hm
        have HM := phid hm
        have b0 : 0 ≤ w0 % 32 ∧ w0 % 32 < 32 := by omega
        have b1 : 0 ≤ w0 / 32 % 16 ∧ w0 / 32 % 16 < 16 := by omega
        have b2 : 0 ≤ w0 / 512 % 32 ∧ w0 / 512 % 32 < 32 := by omega
        have b3 : 0 ≤ w0 / 16384 % 16 ∧ w0 / 16384 % 16 < 16 := by omega
        clear hq hm hw hb hmm
        go_enter Tryd.func21, Tryd.ntmps21
        go_wp2_with fail
        refine (H1.out _).mono ?_
        rintro e w' ⟨rfl, rfl⟩
        go_wp2_with fail
        refine (HM.out _).mono ?_
        rintro e w1 ⟨rfl, hB⟩
        have z0 := (hB.cell (p := ⟨w.heap.size, 0, none⟩) (by simp [go_sem])).trans (show _ = some (.int .u8 0) by simp [go_sem])
        have z1 := (hB.cell (p := ⟨w.heap.size, 1, none⟩) (by simp [go_sem])).trans (show _ = some (.int .u8 0) by simp [go_sem])
        have z2 := (hB.cell (p := ⟨w.heap.size, 2, none⟩) (by simp [go_sem])).trans (show _ = some (.int .u8 0) by simp [go_sem])
        have z3 := (hB.cell (p := ⟨w.heap.size, 3, none⟩) (by simp [go_sem])).trans (show _ = some (.int .u8 0) by simp [go_sem])
        have f0 := (hB.frozen (p := ⟨w.heap.size, 0, none⟩) (by simp [go_sem])).trans (show _ = false by simp [go_sem])
        have f1 := (hB.frozen (p := ⟨w.heap.size, 1, none⟩) (by simp [go_sem])).trans (show _ = false by simp [go_sem])
        have f2 := (hB.frozen (p := ⟨w.heap.size, 2, none⟩) (by simp [go_sem])).trans (show _ = false by simp [go_sem])
        have f3 := (hB.frozen (p := ⟨w.heap.size, 3, none⟩) (by simp [go_sem])).trans (show _ = false by simp [go_sem])
        have hBB := pbt (pbt (pbal _ _) (pbal _ _)) hB
        have HB := phid hBB
        clear hB hBB
        go_wp2_with fail
        refine bodyPost_ret (by simp [results, Tryd.results21, go_sem, z0, z1, z2, z3]; try rfl) rfl ?_
        have := HB.out
        exact ⟨by rw [HX.out.1, HX.out.2]; rfl, by go_grown⟩
    · have hd : decide (262144 ≤ w0) = true := by simp; omega
      have HX := phid (show unS w0 nw = Px.zero ∧ unE w0 nw = 5 from ⟨if_neg (fun h => hb h.2.1), by unfold unE; rw [if_pos hw, if_neg (fun h => hb h.1)]⟩)
      have b0 : 0 ≤ w0 % 32 ∧ w0 % 32 < 32 := by omega
      have b1 : 0 ≤ w0 / 32 % 16 ∧ w0 / 32 % 16 < 16 := by omega
      have b2 : 0 ≤ w0 / 512 % 32 ∧ w0 / 512 % 32 < 32 := by omega
      have b3 : 0 ≤ w0 / 16384 % 16 ∧ w0 / 16384 % 16 < 16 := by omega
      clear hq hw hb
      go_enter Tryd.func21, Tryd.ntmps21
      go_wp2_with fail
      refine (H1.out _).mono ?_
      rintro e w' ⟨rfl, rfl⟩
      go_wp2_with fail
      refine bodyPost_ret (by simp [results, Tryd.results21, go_sem]; try rfl) rfl ?_
      exact ⟨by rw [HX.out.1, HX.out.2]; rfl, by go_grown⟩
  · have HX := phid (show unS w0 nw = Px.zero ∧ unE w0 nw = 2 from ⟨if_neg (fun h => hw h.1), if_neg hw⟩)
    rw [decide_eq_false hw] at hq
    have H1 := phid hq
    clear hq hw
    go_enter Tryd.func21, Tryd.ntmps21
    go_wp2_with fail
    refine (H1.out _).mono ?_
    rintro e w' ⟨rfl, rfl⟩
    go_wp2_with fail
    refine bodyPost_ret (by simp [results, Tryd.results21, go_sem]; try rfl) rfl ?_
    exact ⟨by rw [HX.out.1, HX.out.2]; rfl, by go_grown⟩
end Go.Proofs.YtilegepenibeoaaDoor
