/- 'MachTurns', the tied card: for every input the law returns true, and each argument reads afterwards as it read before; the listed variables start as the program's text lays it (the card ties them). No other condition. -/
import Derived.Test.YtacfdddghdnboaaGreatDoorGT
import Derived.Test.YtacfdddghdnboaaGreatDoorGU
import Derived.Test.YtacfdddghdnboaaGreatDoorCards
import Derived.Test.YtacfdddghdnboaaGreatDoorTie
import Derived.WalkKit
import Derived.ProofKit
import Derived.OpenShut
import Derived.ShutString
import Derived.ChangeOld
import Derived.Below
import Derived.Deep.DeepHandedRow
import Derived.Lib.LaidTab
import Derived.SevenTiedAt
import Derived.LaidSub
/- The plain law of muntinlaw06.MachTurns. No program in sight. -/
namespace Go.Proofs.YtacfdddghdnboaaGreatDoor
open Go.RowKit
set_option linter.unusedVariables false
set_option linter.unusedSimpArgs false
def turnS : Ix := ⟨20, 16, 8, 0, true, 3⟩
def turnR : Ix := ⟨21, 0, 0, 0, false, 0⟩
def turnF (n : Nat) (w : Int) : Nat → Fx
  | 0 => Fx.new n
  | k + 1 => setV (turnF n w k) 0 0 (8 + (k : Int)) (u32 (w + (8 + (k : Int))))
def turnX (deep k : Nat) : Ix := if k < deep then turnS else turnR
def turnD (deep : Nat) : Nat → List Int
  | 0 => List.replicate 1024 0
  | k + 1 => storeV (turnD deep k) (4 * (k : Int)) 4 (encS (turnX deep k))
def turnM0 (n deep : Nat) (w : Int) : Mx := { newM n 1024 with wim := 2, f := turnF n w 24, mem := turnD deep (2 * deep) }
def cwpS (n deep k : Nat) : Nat := if k ≤ deep then (n - k) % n else (n - (2 * deep - k)) % n
structure TurnI (n deep : Nat) (w : Int) (k : Nat) (m : Mx) : Prop where
  nw : m.f.nw = n
  ok : m.f.ok
  mem : m.mem = turnD deep (2 * deep)
  kind : m.kind = 0
  p : m.p = ⟨(cwpS n deep k : Int), 0, 0, 0⟩
  pc : m.pc = 4 * (k : Int)
  wim : m.wim = 2
  out : m.out = []
  same : winR m.f 0 = winR (turnF n w 24) 0
theorem turnX_ok (deep k : Nat) : mayP (turnX deep k) ∧ (turnX deep k).bd := by
  unfold turnX; split
  · exact ⟨by decide, by unfold turnS Ix.bd; simp⟩
  · exact ⟨by decide, by unfold turnR Ix.bd; simp⟩
theorem turnD_len (deep k : Nat) : (turnD deep k).length = 1024 := by
  induction k with
  | zero => exact List.length_replicate
  | succ k ih => unfold turnD; rw [storeV_len, ih]
theorem turnD_code (deep : Nat) (k : Nat) : ∀ K, k < K → K ≤ 256 → CodeAt (turnD deep K) (4 * k) (turnX deep k) := by
  intro K
  induction K with
  | zero => intro h _; omega
  | succ K ih =>
    intro h1 h2
    have e : turnD deep (K + 1) = storeS (turnD deep K) (4 * K) 4 (wordS (turnX deep K)) := by
      show storeV (turnD deep K) (4 * (K : Int)) 4 (encS (turnX deep K)) = _
      rw [show (4 * (K : Int)) = ((4 * K : Nat) : Int) from by omega, storeV_word _ _ _ (by omega) (by rw [turnD_len]; omega), encS, if_pos (turnX_ok deep K).1]
    rw [e]
    by_cases hk : k = K
    · subst hk
      exact CodeAt.new (by omega) (by rw [turnD_len]; omega) (turnX_ok deep k).2 (turnX_ok deep k).1
    · exact (ih (by omega) (by omega)).store _ (by omega)
theorem turnF_nw (n : Nat) (w : Int) (k : Nat) : (turnF n w k).nw = n := by
  induction k with
  | zero => rfl
  | succ k ih => unfold turnF; rw [setV_nw, ih]
theorem turnF_ok (n : Nat) (w : Int) (h2 : 2 ≤ n) (h32 : n ≤ 32) (k : Nat) : (turnF n w k).ok := by
  induction k with
  | zero => exact Fx.ok.new h2 h32
  | succ k ih => unfold turnF; exact ih.sV _ _ _ (u32_bd _)
theorem turn_start (n deep : Nat) (w : Int) (h3 : 3 ≤ n) (h32 : n ≤ 32) : TurnI n deep w 0 (turnM0 n deep w) :=
  by
  obtain ⟨f, hf⟩ : ∃ f, f = turnF n w 24 := ⟨_, rfl⟩
  have e1 := turnF_nw n w 24
  have e2 := turnF_ok n w (by omega) h32 24
  have e3 : turnM0 n deep w = { newM n 1024 with wim := 2, f := f, mem := turnD deep (2 * deep) } := by unfold turnM0; rw [hf]
  rw [← hf] at e1 e2
  rw [e3]
  exact ⟨e1, e2, rfl, rfl, by show Px.zero = _; unfold cwpS Px.zero; simp, rfl, rfl, rfl, by rw [← hf]⟩
theorem winR_set {f : Fx} (h : f.ok) (i : Nat) (hi : 16 ≤ i) (x : Int) : winR { f with win := f.win.set i x } 0 = winR f 0 := by
  unfold winR
  simp only [Nat.mul_zero, List.drop_zero]
  rw [List.take_set_of_le (by omega)]
theorem turn_step (n deep : Nat) (w : Int) (h3 : 3 ≤ n) (h32 : n ≤ 32) (hd : deep + 2 ≤ n) (k : Nat) (hk : k < 2 * deep) (m : Mx) (h : TurnI n deep w k m) :
    TurnI n deep w (k + 1) (stepM m 0) ∧ (k < deep → getV (stepM m 0).f (cwpS n deep (k + 1)) 0 16 = u32 (getV m.f (cwpS n deep k) 0 8 + 3)) := by
  obtain ⟨h1, h2, h4, h5, h6, h7, h8, h9, h10⟩ := h
  have hwin : winP m.nw := by unfold Mx.nw winP; rw [h1]; omega
  have hinv : invV m.wim m.nw = 1 := by
    unfold invV; rw [if_pos hwin, h8, inv_some (k := 1) (by decide) (by unfold Mx.nw; rw [h1]; omega)]; rfl
  have hc := turnD_code deep k (2 * deep) hk (by omega)
  rw [← h4] at hc
  have hs := step_code (m := m) (x := turnX deep k) (level := 0) (a := 4 * k) h5 (by rw [h6]; intro hh; exact absurd (show (0 : Int) < 0 from hh.2) (by decide)) (by rw [h7]; omega) hc
  have hgl := h2.gF
  by_cases hkd : k < deep
  · have hx : turnX deep k = turnS := by unfold turnX; rw [if_pos hkd]
    have hc0 : cwpS n deep k = (n - k) % n := by unfold cwpS; rw [if_pos (by omega)]
    have hc1 : cwpS n deep (k + 1) = n - (k + 1) := by unfold cwpS; rw [if_pos (by omega), Nat.mod_eq_of_lt (by omega)]
    have hto : stepV m.p.cwp (m.nw - 1) m.nw = ((n - (k + 1) : Nat) : Int) := by
      unfold stepV
      rw [h6]
      unfold Mx.nw
      rw [h1, hc0]
      rw [if_pos (show okW (((n - k) % n : Nat) : Int) (n : Int) from by unfold okW winP; have := Nat.mod_lt (n - k) (show 0 < n by omega); omega)]
      simp only
      by_cases hk0 : k = 0
      · subst hk0
        rw [show (n - 0) % n = 0 from by simp, show ((0 : Nat) : Int) + ((n : Int) - 1) = ((n - (0 + 1) : Nat) : Int) from by omega]
        exact Int.emod_eq_of_lt (by omega) (by omega)
      · rw [Nat.mod_eq_of_lt (by omega : n - k < n)]
        rw [show ((n - k : Nat) : Int) + ((n : Int) - 1) = ((n - (k + 1) : Nat) : Int) + n from by omega]
        rw [Int.add_emod_right]
        exact Int.emod_eq_of_lt (by omega) (by omega)
    have e : stepM m 0 = onM (setM { m with p := { m.p with cwp := ((n - (k + 1) : Nat) : Int) } } 16 (u32 (getM m 8 + 3))) := by
      rw [hs, hx]
      show turnM m 16 (getM m 8) (u32 3) (stepV m.p.cwp (m.nw - 1) m.nw) 1 = _
      unfold turnM
      rw [hto, hinv, if_neg (by omega)]
      rfl
    have ew : (stepM m 0).f = { m.f with win := m.f.win.set (16 * (n - (k + 1)) + 0) (u32 (getM m 8 + 3)) } := by
      rw [e]
      show setF m.f (((n - (k + 1) : Nat) : Int)).toNat (m.p.bank).toNat (16 : Int).toNat _ = _
      rw [Int.toNat_natCast]
      rfl
    refine ⟨⟨?_, ?_, ?_, ?_, ?_, ?_, ?_, ?_, ?_⟩, fun _ => ?_⟩
    · rw [ew]; exact h1
    · have hq := h2.sF (((n - (k + 1) : Nat) : Int)).toNat m.p.bank.toNat (16 : Int).toNat (x := u32 (getM m 8 + 3)) (u32_bd _)
      rw [e]; exact hq
    · rw [e]; exact h4
    · rw [e]; exact h5
    · rw [e]
      show ({ m.p with cwp := ((n - (k + 1) : Nat) : Int) } : Px) = _
      rw [h6, hc1]
    · rw [e]
      show u32 (m.pc + 4) = _
      rw [h7]; unfold u32; omega
    · rw [e]; exact h8
    · rw [e]; exact h9
    · rw [ew, winR_set h2 _ (by omega)]; exact h10
    · have g1 : getV m.f (cwpS n deep k) 0 8 = getM m 8 := by
        unfold getV getM
        rw [if_pos (by unfold regOk; rw [h1, hc0]; have := Nat.mod_lt (n - k) (show 0 < n by omega); omega), h6]
      rw [g1, ew, hc1]
      have hwl := h2.wl
      unfold getV
      rw [if_pos (by unfold regOk; simp only; omega)]
      show (m.f.win.set (16 * (n - (k + 1)) + 0) (u32 (getM m 8 + 3))).getD (16 * (((n - (k + 1) : Nat) : Int)).toNat + (16 - 16)) 0 = _
      rw [Int.toNat_natCast, List.getD_eq_getElem?_getD, List.getElem?_set_self (by rw [hwl, h1]; omega)]
      rfl
  · have hx : turnX deep k = turnR := by unfold turnX; rw [if_neg hkd]
    have hc0 : cwpS n deep k = (n - (2 * deep - k)) % n := by
      unfold cwpS; split
      · rw [show k = deep from by omega]; congr 1; omega
      · rfl
    have hc1 : cwpS n deep (k + 1) = (n - (2 * deep - (k + 1))) % n := by unfold cwpS; rw [if_neg (by omega)]
    have hto : stepV m.p.cwp 1 m.nw = ((cwpS n deep (k + 1) : Nat) : Int) := by
      unfold stepV
      rw [h6]
      unfold Mx.nw
      rw [h1, hc0, hc1]
      rw [if_pos (show okW (((n - (2 * deep - k)) % n : Nat) : Int) (n : Int) from by unfold okW winP; have := Nat.mod_lt (n - (2 * deep - k)) (show 0 < n by omega); omega)]
      simp only
      rw [Nat.mod_eq_of_lt (by omega : n - (2 * deep - k) < n), show ((n - (2 * deep - k) : Nat) : Int) + 1 = ((n - (2 * deep - (k + 1)) : Nat) : Int) from by omega]
      exact (Int.natCast_emod _ _).symm
    have hne : cwpS n deep (k + 1) ≠ 1 := by
      rw [hc1]
      by_cases h0 : 2 * deep - (k + 1) = 0
      · rw [h0]; simp
      · rw [Nat.mod_eq_of_lt (by omega)]; omega
    have e : stepM m 0 = onM { m with p := { m.p with cwp := ((cwpS n deep (k + 1) : Nat) : Int) } } := by
      rw [hs, hx]
      show turnM m 0 (getM m 0) (getM m 0) (stepV m.p.cwp 1 m.nw) 2 = _
      unfold turnM
      rw [hto, hinv, if_neg (by omega)]
      rfl
    refine ⟨⟨?_, ?_, ?_, ?_, ?_, ?_, ?_, ?_, ?_⟩, fun hh => absurd hh hkd⟩
    · rw [e]; exact h1
    · rw [e]; exact h2
    · rw [e]; exact h4
    · rw [e]; exact h5
    · rw [e]
      show ({ m.p with cwp := ((cwpS n deep (k + 1) : Nat) : Int) } : Px) = _
      rw [h6]
    · rw [e]
      show u32 (m.pc + 4) = _
      rw [h7]; unfold u32; omega
    · rw [e]; exact h8
    · rw [e]; exact h9
    · rw [e]; exact h10
/-- The machine behind so many instructions. -/
def turnM2 (n : Nat) (F : Fx) (deep k : Nat) : Mx := { newM n 1024 with wim := 2, f := F, mem := turnD deep k }
theorem turnM2_succ (n : Nat) (F : Fx) (deep k : Nat) : { turnM2 n F deep k with mem := storeV (turnM2 n F deep k).mem (4 * (k : Int)) 4 (encS (turnX deep k)) } = turnM2 n F deep (k + 1) := rfl
theorem turnM2_last (n : Nat) (x : Int) (deep : Nat) : turnM2 n (turnF n x 24) deep (2 * deep) = turnM0 n deep x := by unfold turnM2 turnM0; rfl
end Go.Proofs.YtacfdddghdnboaaGreatDoor
/- The walk of muntinlaw06.MachTurns. -/
namespace Go.Proofs.YtacfdddghdnboaaGreatDoor
open Go.RowKit
set_option linter.unusedVariables false
set_option linter.unusedSimpArgs false
theorem MRow.drewN {w : World} {G : MG} {v : Value} {l : List Int} (h : MRow w G v l) (n : Nat) : MRow (w.drewN n) G v l := h.keepb ⟨rfl, rfl, rfl, Nat.le_refl _, fun _ _ => rfl⟩
theorem turn_u32 (w : Int) (k : Nat) (hk : k < 24) : IntKind.u32.wrap (w + (8 + (k : Int))) = u32 (w + (8 + (k : Int))) := uw _
theorem field_stop (a b : Value) (w : World) : (Instr.field 38 (.agg #[a, b]) 0).run Tryz.prog w = .ok a w := by kernel_rfl
theorem field_psr0 (a b c d : Value) (w : World) : (Instr.field 53 (.agg #[a, b, c, d]) 0).run Tryz.prog w = .ok a w := by kernel_rfl
theorem field_psr2 (a b c d : Value) (w : World) : (Instr.field 53 (.agg #[a, b, c, d]) 2).run Tryz.prog w = .ok c w := by kernel_rfl
set_option maxRecDepth 100000 in
set_option maxHeartbeats 4000000 in
theorem walk_MachTurns (nw : Int) (hn0 : 0 ≤ nw ∧ nw < 256) (many : Int) (hm0 : 0 ≤ many ∧ many < 256) (x : Int) (hx : 0 ≤ x ∧ x < 4294967296) (w : World) (ht : Tab w) (hbr : Bru w) :
    Calls Tryz.prog 4 #[.int .u8 nw, .int .u8 many, .int .u32 x] w fun e w' => e = .returned (.bool true) ∧ Below w.heap.size w w' := by
  have HT := mhid ht
  have HR := mhid hbr
  have HHD := mhid (fun w' hb => mhead_any w' (ht.keep hb) (hbr.keep (w' := w') hb))
  clear ht hbr
  obtain ⟨n, hn⟩ : ∃ n : Nat, (n : Int) = 3 + nw % 30 := ⟨(3 + nw % 30).toNat, by omega⟩
  have hn3 : 3 ≤ n := by omega
  have hn32 : n ≤ 32 := by omega
  obtain ⟨deep, hdp⟩ : ∃ d : Nat, (d : Int) = many % ((n : Int) - 1) := ⟨(many % ((n : Int) - 1)).toNat, by have := Int.emod_nonneg many (show ((n : Int) - 1) ≠ 0 by omega); omega⟩
  have hd2 : deep + 2 ≤ n := by have := Int.emod_lt_of_pos many (show 0 < ((n : Int) - 1) by omega); omega
  have HNW := mhid (mw_new n 1024 w w (Below.refl _ _) (by omega) hn32 (by omega) (by omega))
  have q0 : ((n : Int) - 1 == 0) = false := by rw [beq_eq_false_iff_ne]; omega
  have q1 : many.tmod ((n : Int) - 1) = (deep : Int) := by rw [IntWalk.rem_in _ _ hm0.1, hdp]
  have fs0 := field_stop
  have fp0 := field_psr0
  have fp2 := field_psr2
  have HNN := mhid hn
  have HDD := mhid hdp
  have q2 : many % ((n : Int) - 1) = (deep : Int) := hdp.symm
  have q3 : (3 : Int) + nw % 30 = (n : Int) := hn.symm
  clear hn hdp
  go_enter Tryz.func4, Tryz.ntmps4
  go_wp2_with fail
  refine HNW.out.mono ?_
  rintro e w1 ⟨M, G, rfl, hM, -, -⟩
  have HM := mhid hM
  clear hM q1 q2 q3 q0
  go_wp2_with fail
  have hsw := mw_setwim w w1 G M _ HM.out HR.out 2 (by omega)
  have hie : invE 2 (newM n 1024).nw = 0 := by
    show invE 2 (n : Int) = 0
    unfold invE
    rw [if_pos (by unfold winP; omega), inv_some (k := 1) (by decide) (by omega)]
  rw [hie] at hsw
  refine hsw.mono ?_
  rintro e w2 ⟨rfl, G2, hM, -⟩
  have HM := mhid (show MIs w w2 G2 M { newM n 1024 with wim := 2 } from by
    have hq : swimM (newM n 1024) 2 = { newM n 1024 with wim := 2 } := by unfold swimM; rw [if_pos hie]
    rw [← hq]; exact hM)
  clear hM hsw hie
  go_wp2_with fail
  go_loopw [11] (fun r wr => ∃ k : Nat, r = .int .i64 (8 + (k : Int)) ∧ k ≤ 24 ∧ ∃ G, MIs w wr G M { newM n 1024 with wim := 2, f := turnF n x k }) (fun r _ => 32 - (intOf r).toNat)
  case atStart => exact ⟨0, rfl, by omega, G2, HM.out⟩
  case round =>
    obtain ⟨k, rfl, hk, G3, hM⟩ := hrel
    have HM := mhid hM
    clear hM
    by_cases hlt : k < 24
    · have c1 : (8 : Int) + (k : Int) < 32 := by omega
      have hxb : 0 ≤ u32 (x + (8 + (k : Int))) ∧ u32 (x + (8 + (k : Int))) < 4294967296 := u32_bd _
      have c2 : IntKind.u32.wrap (8 + (k : Int)) = 8 + (k : Int) := IntWalk.u32_in _ (by omega)
      have c3 := turn_u32 x k hlt
      have c4 : IntKind.i64.wrap (8 + (k : Int) + 1) = 8 + ((k + 1 : Nat) : Int) := by rw [IntWalk.i64_in _ (by omega)]; omega
      go_wp2_with fail
      refine (mfile_any wr G3 M _ HM.out.at').mono ?_
      rintro e w' ⟨rfl, rfl⟩
      go_wp2_with fail
      refine (mw_set w wr G3 M _ HM.out 0 0 (8 + (k : Int)) (u32 (x + (8 + (k : Int)))) hxb).mono ?_
      rintro e w4 ⟨rfl, G4, hM, -⟩
      have HM := mhid (show MIs w w4 G4 M { newM n 1024 with wim := 2, f := turnF n x (k + 1) } from hM)
      clear hM
      go_wp2_with fail
      exact ⟨⟨k + 1, by go_num, by omega, G4, HM.out⟩, by simp only [intOf]; omega⟩
    · obtain rfl : k = 24 := by omega
      go_wp2_with fail
      refine (mfile_any wr G3 M _ HM.out.at').mono ?_
      rintro e w' ⟨rfl, rfl⟩
      go_wp2_with fail
      refine (mw_win w wr G3 M _ HM.out 0).mono ?_
      rintro e w4 ⟨vb, rfl, hvb, hb4⟩
      obtain ⟨pb, nb, cb, rfl⟩ := hvb.1.shape'
      have HM := mhid (HM.out.keepb hb4)
      have HVB := mhid hvb
      clear hvb hb4
      go_wp2_with fail
      obtain ⟨F, hF⟩ : ∃ F, F = turnF n x 24 := ⟨_, rfl⟩
      rw [← hF] at HM HVB ⊢
      have HM := mhid (show MIs w w4 G3 M (turnM2 n F deep 0) from HM.out)
      have HF := mhid hF
      clear hF
      have hl2 : IntKind.i64.wrap (2 * (deep : Int)) = 2 * (deep : Int) := IntWalk.i64_in _ (by omega)
      go_loopw [14, 15] (fun at' r wr => ∃ k : Nat, at' = .int .u32 (4 * (k : Int)) ∧ r = .int .i64 (k : Int) ∧ k ≤ 2 * deep ∧ ∃ G, MIs w wr G M (turnM2 n F deep k) ∧ MRow wr G (.slice pb nb cb) (winV F 0)) (fun _ r _ => 2 * deep - (intOf r).toNat)
      case atStart => exact ⟨0, rfl, rfl, by omega, G3, HM.out, HVB.out⟩
      case round =>
        obtain ⟨k, rfl, rfl, hk, G5, hM, hvb⟩ := hrel
        have HM := mhid hM
        have HVB := mhid hvb
        clear hM hvb
        by_cases hlt : k < 2 * deep
        · have c1 : (k : Int) < 2 * (deep : Int) := by omega
          by_cases hkd : k < deep
          · have c2 : ¬ ((k : Int) ≥ (deep : Int)) := by omega
            have c2' : ¬ ((deep : Int) ≤ (k : Int)) := by omega
            have c3 : IntKind.u32.wrap (4 * (k : Int) + 4) = 4 * ((k + 1 : Nat) : Int) := by rw [IntWalk.u32_in _ (by omega)]; omega
            have c4 : IntKind.i64.wrap ((k : Int) + 1) = ((k + 1 : Nat) : Int) := by rw [IntWalk.i64_in _ (by omega)]; omega
            have hXe : turnX deep k = turnS := by unfold turnX; rw [if_pos hkd]
            have hXb : turnS.bd := by unfold Ix.bd turnS; simp
            go_wp2_with fail
            have hal : Below wr.heap.size wr (wr.alloc (.cells #[.int .u8 20, .int .u8 16, .int .u8 8, .int .u8 0, .bool true, .int .i32 3] 26)) := (Below.refl _ _).alloc (Nat.le_refl _) _
            have HM := mhid (HM.out.keepb hal)
            have HVB := mhid (HVB.out.keepb hal)
            clear hal
            refine (renc_any turnS hXb _).mono ?_
            rintro e w5 ⟨rfl, hb5⟩
            have HM := mhid (HM.out.keepb hb5)
            have HVB := mhid (HVB.out.keepb hb5)
            clear hb5
            go_wp2_with fail
            refine (mmem_any w5 G5 M _ HM.out.at').mono ?_
            rintro e w' ⟨rfl, rfl⟩
            go_wp2_with fail
            refine (mw_store w w5 G5 M _ HM.out (4 * (k : Int)) (encS turnS) (by omega) (encS_bd hXb)).mono ?_
            rintro e w6 ⟨rfl, G6, hM, hkp⟩
            rw [← hXe, turnM2_succ] at hM
            have HM := mhid hM
            have HVB := mhid (HVB.out.keep hkp)
            clear hM hkp
            go_wp2_with fail
            exact ⟨⟨k + 1, by go_num, by go_num, by omega, G6, HM.out, HVB.out⟩, by simp only [intOf]; omega⟩
          · have c2 : ((k : Int) ≥ (deep : Int)) := by omega
            have c3 : IntKind.u32.wrap (4 * (k : Int) + 4) = 4 * ((k + 1 : Nat) : Int) := by rw [IntWalk.u32_in _ (by omega)]; omega
            have c4 : IntKind.i64.wrap ((k : Int) + 1) = ((k + 1 : Nat) : Int) := by rw [IntWalk.i64_in _ (by omega)]; omega
            have hXe : turnX deep k = turnR := by unfold turnX; rw [if_neg hkd]
            have hXb : turnR.bd := by unfold Ix.bd turnR; simp
            go_wp2_with fail
            have hal : Below wr.heap.size wr (wr.alloc (.cells #[.int .u8 21, .int .u8 0, .int .u8 0, .int .u8 0, .bool false, .int .i32 0] 26)) := (Below.refl _ _).alloc (Nat.le_refl _) _
            have HM := mhid (HM.out.keepb hal)
            have HVB := mhid (HVB.out.keepb hal)
            clear hal
            refine (renc_any turnR hXb _).mono ?_
            rintro e w5 ⟨rfl, hb5⟩
            have HM := mhid (HM.out.keepb hb5)
            have HVB := mhid (HVB.out.keepb hb5)
            clear hb5
            go_wp2_with fail
            refine (mmem_any w5 G5 M _ HM.out.at').mono ?_
            rintro e w' ⟨rfl, rfl⟩
            go_wp2_with fail
            refine (mw_store w w5 G5 M _ HM.out (4 * (k : Int)) (encS turnR) (by omega) (encS_bd hXb)).mono ?_
            rintro e w6 ⟨rfl, G6, hM, hkp⟩
            rw [← hXe, turnM2_succ] at hM
            have HM := mhid hM
            have HVB := mhid (HVB.out.keep hkp)
            clear hM hkp
            go_wp2_with fail
            exact ⟨⟨k + 1, by go_num, by go_num, by omega, G6, HM.out, HVB.out⟩, by simp only [intOf]; omega⟩
        · generalize hkd : k = kd at *
          have HKD := mhid (show kd = 2 * deep by omega)
          have c1 : ¬ ((kd : Int) < 2 * (deep : Int)) := by omega
          clear hkd hlt
          go_wp2_with fail
          have hI0 : TurnI n deep x 0 (turnM2 n F deep kd) := by rw [HKD.out, HF.out, turnM2_last]; exact turn_start n deep x hn3 hn32
          go_loopw [19] (fun r wr => ∃ k : Nat, r = .int .i64 (k : Int) ∧ k ≤ 2 * deep ∧ ∃ G m, TurnI n deep x k m ∧ MIs w wr G M m ∧ MRow wr G (.slice pb nb cb) (winV F 0)) (fun r _ => 2 * deep - (intOf r).toNat)
          case atStart => exact ⟨0, rfl, by omega, G5, _, hI0, HM.out, HVB.out⟩
          case round =>
            obtain ⟨k, rfl, hk, G7, m, hI, hM, hvb⟩ := hrel
            have HM := mhid hM
            have HVB := mhid hvb
            have HI := mhid hI
            clear hM hvb hI hI0
            by_cases hlt : k < 2 * deep
            · have c1 : (k : Int) < 2 * (deep : Int) := by omega
              have c4 : IntKind.i64.wrap ((k : Int) + 1) = ((k + 1 : Nat) : Int) := by rw [IntWalk.i64_in _ (by omega)]; omega
              obtain ⟨cw, hcw⟩ : ∃ cw : Nat, cw = cwpS n deep k := ⟨_, rfl⟩
              have hcwn : cw < n := by rw [hcw]; unfold cwpS; split <;> exact Nat.mod_lt _ (by omega)
              have hst := turn_step n deep x hn3 hn32 hd2 k hlt m HI.out
              have HS := mhid hst
              have HCW := mhid hcw
              clear hst hcw
              go_wp2_with fail
              refine (mfile_any wr G7 M _ HM.out.at').mono ?_
              rintro e w' ⟨rfl, rfl⟩
              go_wp2_with fail
              have hps := mpsr_any wr G7 M _ HM.out.at'
              rw [show m.p.agg = .agg #[.int .u8 (cw : Int), .int .u8 0, .int .u8 0, .int .u8 0] from by rw [HI.out.p, ← HCW.out]] at hps
              refine hps.mono ?_
              rintro e w5 ⟨rfl, hb5⟩
              have HM := mhid (HM.out.keepb hb5)
              have HVB := mhid (HVB.out.keepb hb5)
              clear hb5 hps
              go_wp2_with fail
              refine (fget_any w5 G7.F G7.Wb G7.wc _ HM.out.at'.file (cw : Int) 0 8).mono ?_
              rintro e w6 ⟨rfl, n6, rfl⟩
              have HM := mhid (HM.out.drewN n6)
              have HVB := mhid (HVB.out.drewN n6)
              have hgb := HM.out.at'.ok.f.gV (cw : Int) 0 8
              have HG := mhid (show k < deep → getV (stepM m 0).f (cwpS n deep (k + 1)) 0 16 = u32 (getV m.f (cw : Int) 0 8 + 3) from by rw [HCW.out]; exact HS.out.2)
              generalize getV m.f (cw : Int) 0 8 = gv at hgb HG ⊢
              go_wp2_with fail
              have hs1 := mw_step w _ G7 M _ HM.out HT.out HR.out 0 (by omega) (by omega) (by rw [HI.out.out]; decide)
              rw [HS.out.1.kind] at hs1
              refine hs1.mono ?_
              rintro e w8 ⟨rfl, G8, hM, hkp⟩
              have HVB := mhid (HVB.out.keep hkp)
              have HM := mhid hM
              have HI := mhid HS.out.1
              clear hM hkp hs1 HS
              generalize stepM m 0 = m2 at *
              obtain ⟨c2, hc2⟩ : ∃ cw : Nat, cw = cwpS n deep (k + 1) := ⟨_, rfl⟩
              have hc2n : c2 < n := by rw [hc2]; unfold cwpS; split <;> exact Nat.mod_lt _ (by omega)
              have HC2 := mhid hc2
              clear hc2
              go_wp2_with fail
              have hps := mpsr_any w8 G8 M _ HM.out.at'
              rw [show m2.p.agg = .agg #[.int .u8 (c2 : Int), .int .u8 0, .int .u8 0, .int .u8 0] from by rw [HI.out.p, ← HC2.out]] at hps
              refine hps.mono ?_
              rintro e w9 ⟨rfl, hb9⟩
              have HM := mhid (HM.out.keepb hb9)
              have HVB := mhid (HVB.out.keepb hb9)
              clear hb9 hps
              go_wp2_with fail
              refine (mfile_any w9 G8 M _ HM.out.at').mono ?_
              rintro e w' ⟨rfl, rfl⟩
              go_wp2_with fail
              have hps := mpsr_any w9 G8 M _ HM.out.at'
              rw [show m2.p.agg = .agg #[.int .u8 (c2 : Int), .int .u8 0, .int .u8 0, .int .u8 0] from by rw [HI.out.p, ← HC2.out]] at hps
              refine hps.mono ?_
              rintro e w10 ⟨rfl, hb10⟩
              have HM := mhid (HM.out.keepb hb10)
              have HVB := mhid (HVB.out.keepb hb10)
              clear hb10 hps
              go_wp2_with fail
              refine (fget_any w10 G8.F G8.Wb G8.wc _ HM.out.at'.file (c2 : Int) 0 16).mono ?_
              rintro e w11 ⟨rfl, n11, rfl⟩
              have HM := mhid (HM.out.drewN n11)
              have HVB := mhid (HVB.out.drewN n11)
              have HG := mhid (show k < deep → getV m2.f (c2 : Int) 0 16 = u32 (gv + 3) from by rw [HC2.out]; exact HG.out)
              by_cases hkd : k < deep
              · have c5 : (k : Int) < (deep : Int) := by omega
                have c6 : (u32 (gv + 3) != u32 (gv + 3)) = false := by simp
                have c7 : IntKind.u32.wrap (gv + 3) = u32 (gv + 3) := uw _
                rw [HG.out hkd]
                generalize u32 (gv + 3) = g3 at c6 c7
                go_wp2_with fail
                go_round
                · exact ⟨k + 1, by go_num, by omega, G8, m2, HI.out, HM.out, HVB.out⟩
                · simp only [intOf]; omega
              · have c5 : ¬ ((k : Int) < (deep : Int)) := by omega
                go_wp2_with fail
                go_round
                · exact ⟨k + 1, by go_num, by omega, G8, m2, HI.out, HM.out, HVB.out⟩
                · simp only [intOf]; omega
            · have hkk : k = 2 * deep := by omega
              have c1 : ¬ ((k : Int) < 2 * (deep : Int)) := by omega
              go_wp2_with fail
              refine (mfile_any wr G7 M _ HM.out.at').mono ?_
              rintro e w' ⟨rfl, rfl⟩
              go_wp2_with fail
              refine (mw_win w wr G7 M _ HM.out 0).mono ?_
              rintro e w4 ⟨va, rfl, hva, hb4⟩
              obtain ⟨pa, na, ca, rfl⟩ := hva.1.shape'
              have HM := mhid (HM.out.keepb hb4)
              have HVB := mhid (HVB.out.keepb hb4)
              have HVA := mhid (show MRow w4 G7 (.slice pa na ca) (winV F 0) from by
                have hq : winV m.f 0 = winV F 0 := by
                  have hwn : regOk m.f 0 0 0 := by unfold regOk; rw [HI.out.nw]; omega
                  have hwn2 : regOk F 0 0 0 := by unfold regOk; rw [HF.out, turnF_nw]; omega
                  unfold winV
                  rw [if_pos hwn, if_pos hwn2, HF.out]
                  exact HI.out.same
                rw [← hq]; exact hva)
              clear hva hb4
              have hcw : cwpS n deep (2 * deep) = 0 := by
                unfold cwpS; split
                · rw [show deep = 0 from by omega]; simp
                · simp
              have hpc : m.pc = 4 * (kd : Int) := by rw [HI.out.pc, hkk, HKD.out]
              have hpa : m.p.agg = .agg #[.int .u8 0, .int .u8 0, .int .u8 0, .int .u8 0] := by rw [HI.out.p, hkk, hcw]; rfl
              clear hcw
              go_wp2_with fail
              have hps := mpsr_any w4 G7 M _ HM.out.at'
              rw [hpa] at hps
              refine hps.mono ?_
              rintro e w5 ⟨rfl, hb5⟩
              have HM := mhid (HM.out.keepb hb5)
              have HVB := mhid (HVB.out.keepb hb5)
              have HVA := mhid (HVA.out.keepb hb5)
              clear hb5 hps hpa
              go_wp2_with fail
              have hpp := mpc_any w5 G7 M _ HM.out.at'
              rw [hpc] at hpp
              refine hpp.mono ?_
              rintro e w' ⟨rfl, rfl⟩
              clear hpp hpc
              go_wp2_with fail
              refine (same_any w5 _ _ _ _ HVB.out.1 HVA.out.1).mono ?_
              rintro e w6 ⟨rfl, hb6⟩
              have HM := mhid (HM.out.keepb hb6)
              have c8 : decide (winV F 0 = winV F 0) = true := by simp
              rw [c8]
              clear hb6 c8
              go_wp2_with fail
              refine (HHD.out _ HM.out.bel).mono ?_
              rintro e w7 ⟨rfl, hb7⟩
              go_wp2_with fail
              go_ret
              exact ⟨rfl, HM.out.bel.trans (hb7.mono HM.out.bel.size)⟩
end Go.Proofs.YtacfdddghdnboaaGreatDoor
namespace Go.Proofs.YtacfdddghdnboaaGreatDoor.machTurnsP
open Go.ChangeShapes Go.WideShapes Go.ChangeAt Go.RowKit
set_option linter.unusedVariables false
theorem own : ownKnob Tryz.prog.godebug = none := by kernel_rfl
theorem laidOut : laidOutB Tryz.prog = true := by kernel_rfl
theorem gTab : Tryz.prog.globalNamed "muntin/inst.fields" = some 1 := by kernel_rfl
theorem gTabType : (Tryz.prog.globals[1]?).map (·.type) = some 224 := by kernel_rfl
theorem cellsTab : Tryz.prog.cellsOf 224 = 38 := by kernel_rfl
theorem cellsU8 : Tryz.prog.cellsOf 5 = 1 := by kernel_rfl
theorem gBru : Tryz.prog.globalNamed "math/bits.deBruijn32tab" = some 0 := by kernel_rfl
theorem gBruType : (Tryz.prog.globals[0]?).map (·.type) = some 217 := by kernel_rfl
theorem cellsBru : Tryz.prog.cellsOf 217 = 32 := by kernel_rfl
theorem keepF : (Rows.machTurnsRow.laid.filter fun e => e.1 == "muntin/inst.fields") = [("muntin/inst.fields", Lib.tabData .u8 [128, 7, 7, 7, 7, 7, 7, 7, 7, 7, 7, 7, 7, 7, 7, 25, 6, 25, 24, 7, 7, 7, 7, 7, 7, 7, 1, 6, 1, 6, 9, 10, 0, 8, 1, 2, 2, 8])] := by kernel_rfl
theorem keepB : (Rows.machTurnsRow.laid.filter fun e => e.1 == "math/bits.deBruijn32tab") = [("math/bits.deBruijn32tab", Lib.tabData .u8 [0, 1, 28, 2, 29, 14, 24, 3, 30, 22, 20, 15, 25, 17, 4, 8, 31, 27, 13, 23, 21, 19, 16, 7, 26, 12, 18, 6, 11, 5, 10, 9])] := by kernel_rfl
/-- What the row's list gives: the tables' cells hold their numbers. -/
theorem table {W : World} (h : laidMetH Tryz.prog Rows.machTurnsRow.laid W) : Lib.TabIs Tryz.prog W "muntin/inst.fields" .u8 [128, 7, 7, 7, 7, 7, 7, 7, 7, 7, 7, 7, 7, 7, 7, 25, 6, 25, 24, 7, 7, 7, 7, 7, 7, 7, 1, 6, 1, 6, 9, 10, 0, 8, 1, 2, 2, 8] := by
  have h1 := h.filter (fun e => e.1 == "muntin/inst.fields")
  rw [keepF] at h1
  exact Lib.tabIs_of_head (rest := []) gTab gTabType Tryz.underlying224 Tryz.underlying5 cellsU8 cellsTab h1
theorem tabW {W : World} (h : laidMetH Tryz.prog Rows.machTurnsRow.laid W) : Tab W :=
  tab_of (fun i hi => (table h).cell gTab i hi)
theorem tableB {W : World} (h : laidMetH Tryz.prog Rows.machTurnsRow.laid W) : Lib.TabIs Tryz.prog W "math/bits.deBruijn32tab" .u8 [0, 1, 28, 2, 29, 14, 24, 3, 30, 22, 20, 15, 25, 17, 4, 8, 31, 27, 13, 23, 21, 19, 16, 7, 26, 12, 18, 6, 11, 5, 10, 9] := by
  have h1 := h.filter (fun e => e.1 == "math/bits.deBruijn32tab")
  rw [keepB] at h1
  exact Lib.tabIs_of_head (rest := []) gBru gBruType Tryz.underlying217 Tryz.underlying5 cellsU8 cellsBru h1
theorem bruW {W : World} (h : laidMetH Tryz.prog Rows.machTurnsRow.laid W) : Bru W :=
  bru_of (fun i hi => (tableB h).cell gBru i hi)
set_option maxRecDepth 100000 in
theorem contract (H : Type) (enc : TypeId × Value → H) (W : World) (base : Nat) (args : Array Value) (ds gs : List (DataW H)) (before : List MemPlace)
    (hval0 : ∀ (j : Nat) t v, Tryz.f4.params[j]? = some t → args[j]? = some v → Value.okWide Tryz.prog W .any base t v)
    (hW : DataW.Whole enc Tryz.prog Tryz.f4.params.toList Rows.machTurnsSpec.vars false W args.toList ds gs before) (hL : laidMetH Tryz.prog Rows.machTurnsRow.laid W) :
    Calls Tryz.prog 4 args W fun e W' => ∃ v, e = .returned v ∧ Rows.machTurnsSpec.post enc Tryz.prog Tryz.f4 false true false false W args v W' := by
  have hval : ∀ (j : Nat) t v, Tryz.f4.params[j]? = some t → args[j]? = some v → Value.okWide Tryz.prog W .any base t v := hval0
  have ht := tabW hL
  have hbr := bruW hL
  have hW' := hW
  obtain ⟨p, q, hA0, hV, rfl, hfz, hnd⟩ := hW
  have hA : DataW.TrodAll enc Tryz.prog W 0 (fun _ => true) true Tryz.f4.params.toList args.toList ds p := hA0
  rw [Tryz.params4] at hA hval
  obtain ⟨v0, vs0, d0, ds0, p0, q0, hargs, rfl, rfl, h0, r0⟩ := trodAll_cons hA
  obtain ⟨v1, vs1, d1, ds1, p1, q1, rfl, rfl, rfl, h1, r1⟩ := trodAll_cons r0
  obtain ⟨v2, vs2, d2, ds2, p2, q2, rfl, rfl, rfl, h2, r2⟩ := trodAll_cons r1
  obtain ⟨rfl, rfl, rfl⟩ := trodAll_nil r2
  obtain rfl : args = #[v0, v1, v2] := by cases args; simp_all
  obtain ⟨rfl, rfl⟩ := trodVars_none hV
  obtain ⟨a0, rfl, rfl, rfl, w0⟩ := open_int Tryz.underlying5 (hval 0 5 v0 rfl rfl) h0
  have bd0 := bounds_u8 w0
  obtain ⟨a1, rfl, rfl, rfl, w1⟩ := open_int Tryz.underlying5 (hval 1 5 v1 rfl rfl) h1
  have bd1 := bounds_u8 w1
  obtain ⟨a2, rfl, rfl, rfl, w2⟩ := open_int Tryz.underlying22 (hval 2 22 v2 rfl rfl) h2
  have bd2 := bounds_u32 w2
  clear hA0 hval0
  refine (walk_MachTurns a0 (by omega) a1 (by omega) a2 (by omega) W ht hbr).mono fun e W' ⟨he, bel⟩ => ?_
  subst he
  exact ⟨_, rfl, _, _, _, [], _, [], hW', trodAll_mk1 (shut_bool Tryz.underlying4 _), (trodAll_cons_mk (shut_int Tryz.underlying5 w0) (trodAll_cons_mk (shut_int Tryz.underlying5 w1) (trodAll_cons_mk (shut_int Tryz.underlying22 w2) trodAll_mk0))), rfl, bel.frame _, fun h => by cases h⟩
def lay0 : Obj → Obj
  | .cells _ t frozen => .cells #[.int .u8 0, .int .u8 1, .int .u8 28, .int .u8 2, .int .u8 29, .int .u8 14, .int .u8 24, .int .u8 3, .int .u8 30, .int .u8 22, .int .u8 20, .int .u8 15, .int .u8 25, .int .u8 17, .int .u8 4, .int .u8 8, .int .u8 31, .int .u8 27, .int .u8 13, .int .u8 23, .int .u8 21, .int .u8 19, .int .u8 16, .int .u8 7, .int .u8 26, .int .u8 12, .int .u8 18, .int .u8 6, .int .u8 11, .int .u8 5, .int .u8 10, .int .u8 9] t frozen
  | o => o
def lay1 : Obj → Obj
  | .cells _ t frozen => .cells #[.int .u8 128, .int .u8 7, .int .u8 7, .int .u8 7, .int .u8 7, .int .u8 7, .int .u8 7, .int .u8 7, .int .u8 7, .int .u8 7, .int .u8 7, .int .u8 7, .int .u8 7, .int .u8 7, .int .u8 7, .int .u8 25, .int .u8 6, .int .u8 25, .int .u8 24, .int .u8 7, .int .u8 7, .int .u8 7, .int .u8 7, .int .u8 7, .int .u8 7, .int .u8 7, .int .u8 1, .int .u8 6, .int .u8 1, .int .u8 6, .int .u8 9, .int .u8 10, .int .u8 0, .int .u8 8, .int .u8 1, .int .u8 2, .int .u8 2, .int .u8 8] t frozen
  | o => o
/-- A world for the witness: the settled one, the two tables holding what their initialisers lay. -/
noncomputable def laidWorld (os : Os) : World :=
  { World.holding Tryz.prog os ⟨#[], #[], []⟩ with heap := (((World.holding Tryz.prog os ⟨#[], #[], []⟩).heap.modify 0 lay0).modify 1 lay1) }
theorem laid_met (os : Os) : laidMet Tryz.prog Rows.machTurnsRow.laid ((laidWorld os).forCall (fun _ _ => 0) ⟨#[], #[.int .u8 0, .int .u8 0, .int .u32 0], []⟩).memory :=
  laidMet_of_run' 8 (by kernel_rfl) (by kernel_rfl)
theorem reads (os : Os) {H : Type} (enc : TypeId × Value → H) : ∃ places, DataW.whole enc Tryz.prog ((laidWorld os).forCall (fun _ _ => 0) ⟨#[], #[.int .u8 0, .int .u8 0, .int .u32 0], []⟩).memory Tryz.f4.params.toList Rows.machTurnsSpec.vars false (#[.int .u8 0, .int .u8 0, .int .u32 0] : Array Value).toList 8 = some ([.lit (.int .u8 0), .lit (.int .u8 0), .lit (.int .u32 0)], [], places) :=
  ⟨[], by kernel_rfl⟩
set_option maxRecDepth 100000 in
theorem lifted (os : Os) (started : os.Started) (H : Type) (enc : TypeId × Value → H) (F : Stop.Interp) :
    ReturnsInHanded {} Tryz.checked os 4 .any ((OpenSpec.ofChange Rows.machTurnsSpec).preRow enc Tryz.prog Tryz.f4 Rows.machTurnsRow.domain false Rows.machTurnsRow.laid) (((OpenSpec.ofChange Rows.machTurnsSpec).at F).post enc Tryz.prog Tryz.f4 false true false false) := by
  obtain ⟨places, hx⟩ := reads os enc
  refine returnsInHanded_of_row (C := Tryz.checked) (s := OpenSpec.ofChange Rows.machTurnsSpec) own started (by kernel_rfl) Tryz.func4
    (witness_row_at (enc := enc) (C := Tryz.checked) false (laidWorld os) #[.int .u8 0, .int .u8 0, .int .u32 0] rfl (by kernel_rfl) (by kernel_rfl) (by kernel_rfl)
      (OpenSpec.preRow_of_cond 8 hx (by kernel_rfl) (fun k hk => by cases hk) (by kernel_rfl) (laid_met os))) ?_
  intro W base args ds gs before hval hW _ _ _ hL _ _
  exact contract H enc W base args ds gs before hval hW hL
theorem said : Rows.MachTurnsSaid :=
  OpenClaim.holds_of_cond 4 Tryz.f4 rfl rfl rfl rfl rfl rfl rfl ⟨rfl, rfl, rfl, rfl, rfl⟩ rfl rfl rfl rfl rfl (by kernel_rfl) Tryz.func4 (by kernel_rfl)
    (of_decide_eq_true (by kernel_rfl)) (by unfold Func.isWrapper; first | (rw [if_pos (by decide +kernel)]; kernel_rfl) | (rw [if_neg (by decide +kernel)]; exact ⟨rfl, rfl⟩))
    (fun os started H enc _ F => by rw [OpenClaim.pre_eq_preRow]; exact lifted os started H enc F)
theorem plain (f : FuncId) (fn : Func) (hf : Tryz.pinned.checked.prog.funcNamed "muntin/muntinlaw06.MachTurns" = some f) (hfn : Tryz.pinned.checked.prog.funcs[f]? = some fn) :
    false = Tryz.pinned.checked.prog.looks [] ∧ ∀ (j : Nat) t, fn.params[j]? = some t → Tryz.pinned.checked.prog.wantsStandIn t = false := by
  obtain rfl : f = 4 := Option.some.inj ((show Tryz.prog.funcNamed "muntin/muntinlaw06.MachTurns" = some 4 by kernel_rfl).symm.trans hf) |>.symm
  obtain rfl : fn = Tryz.f4 := (Option.some.inj (Tryz.func4.symm.trans hfn)).symm
  refine ⟨by kernel_rfl, fun j t ht => ?_⟩
  have hall : (Tryz.f4.params.toList.all fun u => !Tryz.prog.wantsStandIn u) = true := by kernel_rfl
  have hm : t ∈ Tryz.f4.params.toList := by simpa using Array.mem_of_getElem? ht
  exact (show Tryz.prog.wantsStandIn t = false by simpa using List.all_eq_true.1 hall t hm)
/-- The statement. -/
theorem proved : Rows.MachTurnsCardSaid :=
  Claim7.holds_tied_plain_at .later [] _ _ _ _ said (fun _ h => by cases h) (by kernel_rfl) (fun _ h => by cases h) machTurns_row_tie rfl ⟨rfl, rfl⟩ (by kernel_rfl) rfl plain (by kernel_rfl)
end Go.Proofs.YtacfdddghdnboaaGreatDoor.machTurnsP
