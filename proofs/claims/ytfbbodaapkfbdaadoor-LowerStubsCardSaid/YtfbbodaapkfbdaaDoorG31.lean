/- The walk of muntinref26.Stub: the way that puts. -/
import Derived.Test.YtfbbodaapkfbdaaDoorG30
import Derived.Deep.RegionLaw
import Derived.Deep.Cut
namespace Go.Proofs.YtfbbodaapkfbdaaDoor
open Go.RowKit
set_option linter.unusedVariables false
set_option linter.unusedSimpArgs false
theorem row_put {W : World} {size n : Nat} {v : Value} {cs : List Value} (h : RowC W v size n cs) {q : Nat} (hne : ∀ k, v.ownBlock = some k → ¬ k = q) (x y : Value) : RowC ((W.setCell ⟨q, 0, none⟩ x).setCell ⟨q, 1, none⟩ y) v size n cs :=
  h.keepO (S := fun k => k = q) (((Only.refl (fun k => k = q) W).setCell (p := ⟨q, 0, none⟩) rfl x).setCell (p := ⟨q, 1, none⟩) rfl y) hne
theorem row_lt {W : World} {size n : Nat} {v : Value} {cs : List Value} (h : RowC W v size n cs) (k : Nat) (hk : v.ownBlock = some k) : k < W.heap.size := by
  rcases h.2 with ⟨rfl, _⟩ | ⟨g, cap, rfl, _, _, hg, _⟩
  · simp [Value.ownBlock] at hk
  · simp [Value.ownBlock] at hk; omega
/-- Behind the jump. -/
def RB (w W9 : World) (q : Nat) (p5 : Option Addr) (n5 c5 : Nat) (M' : List (List UInt8 × Int)) (p8 : Option Addr) (n8 c8 : Nat) (L' : List It) (Z : Prop) : Prop :=
  VRow W9 q 60 [.slice p8 n8 c8, .slice p5 n5 c5] ∧ ItemsAt W9 (.slice p8 n8 c8) L' ∧ MarksAt W9 (.slice p5 n5 c5) M' ∧ (∀ k, (Value.slice p8 n8 c8).ownBlock = some k → ¬ k = q ∧ ¬ k = w.heap.size + 1 + 1 ∧ (Z → w.heap.size ≤ k)) ∧ (∀ k, (Value.slice p5 n5 c5).ownBlock = some k → ¬ k = q ∧ ¬ k = w.heap.size + 1 + 1 ∧ (Z → w.heap.size ≤ k)) ∧ VRow W9 (w.heap.size + 1 + 1) 60 [.slice none 0 0, .slice none 0 0] ∧ Below w.heap.size w W9 ∧ w.heap.size + 1 + 1 ≠ q
/-- Behind the mark: the box of the list then. -/
def RA (w3 : World) (B q : Nat) (pl : Option Addr) (nl cl : Nat) (p5 : Option Addr) (n5 c5 : Nat) (M' : List (List UInt8 × Int)) (Z : Prop) (W6 : World) : Prop :=
  VRow W6 q 60 [.slice pl nl cl, .slice p5 n5 c5] ∧ Below w3.heap.size w3 W6 ∧ w3.heap.size ≤ q ∧ MarksAt W6 (.slice p5 n5 c5) M' ∧ ∀ k, (Value.slice p5 n5 c5).ownBlock = some k → ¬ k = q ∧ ¬ k = B + 1 + 1 ∧ (Z → B ≤ k)
set_option maxRecDepth 100000 in
set_option maxHeartbeats 4000000 in
theorem rstub_new {w : World} {pl pm pt pf : Option Addr} {nl cl nm cm nt ct nf cf : Nat} {heap : Int} {bt ot n f : Nat} {M : List (List UInt8 × Int)} (hnt : n < nt) (hn63 : n < 9223372036854775808) (hpt : pt = some ⟨bt, ot, none⟩) (ht : w.cell? ⟨bt, ot + n, none⟩ = some (.int .i64 f)) (hf : f < nf) (hmv : MarksAt w (.slice pm nm cm) M) (hML : M.length < 4294967296) (hE : markE M (nameB' (tNameL n)) = 0) {L : List It} (hq0 : ItemsAt w (.slice pl nl cl) L) (hLL : L.length + 5 < 4294967296) (hf63 : f < 9223372036854775808) :
    Calls Tryd.prog 17 #[.agg #[.slice pl nl cl, .slice pm nm cm], .agg #[.int .i64 heap, .slice pt nt ct, .slice pf nf cf], .int .i64 n] w fun e w' => (∃ lv' mv', e = .returned (.tuple #[.agg #[lv', mv'], .int .i64 0]) ∧ ItemsAt w' lv' (putL (jumpL L 18 0 (nameB' (fNameL f))) [stubI n]) ∧ MarksAt w' mv' (markM M (nameB' (tNameL n)) nl) ∧ ((pl = none ∧ pm = none) → (∀ k, lv'.ownBlock = some k → w.heap.size ≤ k) ∧ ∀ k, mv'.ownBlock = some k → w.heap.size ≤ k)) ∧ Below w.heap.size w w' := by
  obtain ⟨w1, hw1⟩ : ∃ w1, w1 = ((w.alloc (.cells #[.slice pl nl cl, .slice pm nm cm] 60)).alloc (.cells #[.int .i64 heap, .slice pt nt ct, .slice pf nf cf] 25)).alloc (.cells #[.slice none 0 0, .slice none 0 0] 60) := ⟨_, rfl⟩
  have hb1 : Below w.heap.size w w1 := by rw [hw1]; exact (((Below.refl _ w).alloc (Nat.le_refl _) _).alloc (by simp [go_sem]) _).alloc (by simp [go_sem]; omega) _
  have a0 : w1.cell? ⟨w.heap.size, 0, none⟩ = some (.slice pl nl cl) := by rw [hw1]; simp [go_sem]
  have a1 : w1.cell? ⟨w.heap.size, 1, none⟩ = some (.slice pm nm cm) := by rw [hw1]; simp [go_sem]
  have p1 : w1.cell? ⟨w.heap.size + 1, 1, none⟩ = some (.slice pt nt ct) := by rw [hw1]; simp [go_sem]
  have p2 : w1.cell? ⟨w.heap.size + 1, 2, none⟩ = some (.slice pf nf cf) := by rw [hw1]; simp [go_sem]
  have vr : VRow w1 (w.heap.size + 1 + 1) 60 [.slice none 0 0, .slice none 0 0] := by
    rw [hw1]
    have h := VRow.fresh ((w.alloc (.cells #[.slice pl nl cl, .slice pm nm cm] 60)).alloc (.cells #[.int .i64 heap, .slice pt nt ct, .slice pf nf cf] 25)) 60 [.slice none 0 0, .slice none 0 0]
    have e : ((w.alloc (.cells #[.slice pl nl cl, .slice pm nm cm] 60)).alloc (.cells #[.int .i64 heap, .slice pt nt ct, .slice pf nf cf] 25)).heap.size = w.heap.size + 1 + 1 := by simp [go_sem]
    rw [e] at h
    exact h
  subst hpt
  replace ht := (hb1.cell (World.block_lt_of_cell? _ _ ht)).trans ht
  have HB := ahid hb1
  have HV := ahid vr
  have d1 : decide ((n : Int) < 0) = false := decide_eq_false (by omega)
  have d2 : decide ((nt : Int) ≤ (n : Int)) = false := decide_eq_false (by omega)
  have n0 : (0 : Int) ≤ (n : Int) := by omega
  have n1 : (n : Int) < (nt : Int) := by omega
  have d3 : decide ((f : Int) < 0) = false := decide_eq_false (by omega)
  have d4 : decide ((nf : Int) ≤ (f : Int)) = false := decide_eq_false (by omega)
  have d5 : ¬ (n : Int) < 0 := by omega
  have d6 : ¬ nt ≤ n := by omega
  have d7 : decide (nt ≤ n) = false := decide_eq_false d6
  have d8 : ¬ nf ≤ f := by omega
  have d9 : decide (nf ≤ f) = false := decide_eq_false d8
  have hlen := decl_len n hn63
  have hl1 : ¬ (9223372036854775807 < 1 + (nameB' (decL n)).size) := by rw [nameB_size]; unfold decL; omega
  have HN := ahid (fun w' => number_any n hn63 w')
  have HM := ahid (fun w' (hd : Below w1.heap.size w1 w') => rmark_any w' pl nl cl (.slice pm nm cm) M (show MarksAt w' (.slice pm nm cm) M from (RowC.keep hmv (hb1.trans (hd.mono hb1.size)))) (nameB' (tNameL n)) hML)
  have e3 : (⟨#[116]⟩ : ByteArray) ++ nameB' (decL n) = nameB' (tNameL n) := nameB_add [116] (decL n)
  have HE := ahid hE
  have HPM := ahid (fun k hk => row_lt hmv k hk)
  clear hb1 vr hmv hE
  generalize nameB' (tNameL n) = nmT at HM HE e3
  generalize nameB' (decL n) = nmD at *
  go_enter Tryd.func17, Tryd.ntmps17
  go_wp2_with fail
  rw [← hw1]
  clear hw1
  go_quiet (fail)
  have hbq := ldrewN (Below.refl w1.heap.size w1) nq
  have HV2 := ahid (show VRow (w1.drewN nq) (w.heap.size + 1 + 1) 60 [.slice none 0 0, .slice none 0 0] from HV.out)
  have HB2 := ahid (HB.out.trans (hbq.mono HB.out.size))
  have HM2 := ahid (fun w' (hd : Below (w1.drewN nq).heap.size (w1.drewN nq) w') => HM.out w' (hbq.trans (hd.mono hbq.size)))
  replace a0 : (w1.drewN nq).cell? ⟨w.heap.size, 0, none⟩ = some (.slice pl nl cl) := a0
  replace a1 : (w1.drewN nq).cell? ⟨w.heap.size, 1, none⟩ = some (.slice pm nm cm) := a1
  have HP := ahid (show ∀ w', Below (w1.drewN nq).heap.size (w1.drewN nq) w' → w'.cell? ⟨w.heap.size + 1, 1, none⟩ = some (.slice (some ⟨bt, ot, none⟩) nt ct) ∧ w'.cell? ⟨bt, ot + n, none⟩ = some (.int .i64 f) from fun w' hd => ⟨(hd.cell (p := ⟨w.heap.size + 1, 1, none⟩) (World.block_lt_of_cell? (w1.drewN nq) _ p1)).trans p1, (hd.cell (p := ⟨bt, ot + n, none⟩) (World.block_lt_of_cell? (w1.drewN nq) _ ht)).trans ht⟩)
  clear p1 p2 ht hbq HV HB HM
  generalize w1.drewN nq = w3 at *
  have HS := ahid (show ∀ w', Below w3.heap.size w3 w' → w'.cell? ⟨w.heap.size, 0, none⟩ = some (.slice pl nl cl) ∧ w'.cell? ⟨w.heap.size, 1, none⟩ = some (.slice pm nm cm) from fun w' hd => ⟨(hd.cell (World.block_lt_of_cell? _ _ a0)).trans a0, (hd.cell (World.block_lt_of_cell? _ _ a1)).trans a1⟩)
  go_wp2_with fail
  go_cut [8, 9] from 10 (fun a e W6 => ∃ q p5 n5 c5, a = .pointer (some ⟨q, 0, none⟩) ∧ e = .int .i64 (markE M nmT) ∧ RA w3 w.heap.size q pl nl cl p5 n5 c5 (markM M nmT nl) (pl = none ∧ pm = none) W6)
  case first =>
    go_region_held3 (fun w' => w'.cell? ⟨w.heap.size, 0, none⟩ = some (.slice pl nl cl) ∧ w'.cell? ⟨w.heap.size, 1, none⟩ = some (.slice pm nm cm)) (first | (with_reducible exact ⟨a0, a1⟩) | (with_reducible exact HS.out _ hb5) | (with_reducible exact HS.out _ hb4) | (refine HS.out _ ?_; go_grown; done))
      (first | (go_at_call 40; (with_reducible refine (HN.out _).mono ?_); rintro e W4 ⟨rfl, hb40⟩; have hb4 : Below w3.heap.size w3 W4 := ((Below.refl w3.heap.size w3).drew).trans hb40; have hle4 : w3.heap.size ≤ W4.heap.size := hb4.size)
             | (go_at_call 40; (with_reducible refine (HN.out _).mono ?_); rintro e W4 ⟨rfl, hb40⟩; have hzz : VRow W4 w3.heap.size 60 [.slice none 0 0, .slice none 0 0] := (show VRow ((w3.alloc (.cells #[.slice none 0 0, .slice none 0 0] 60)).drew) w3.heap.size 60 [.slice none 0 0, .slice none 0 0] from VRow.fresh w3 60 [.slice none 0 0, .slice none 0 0]).below hb40; have hb4 : Below w3.heap.size w3 W4 := (((Below.refl w3.heap.size w3).alloc (Nat.le_refl _) _).drew).trans (hb40.mono (((Below.refl w3.heap.size w3).alloc (Nat.le_refl _) _).drew).size); have hle4 : w3.heap.size ≤ W4.heap.size := hb4.size)
             | (have _t := hzz; go_at_call 19; (with_reducible refine (HM2.out _ hb4).mono ?_); rintro e W5 ⟨mv', rfl, hm5, hb50, hown⟩; obtain ⟨p5, n5, c5, rfl⟩ := hm5.shape; have hz := hzz.below hb50; have y0 := hz.cell (k := 0) rfl; have y1 := hz.cell (k := 1) rfl; have f0 := hz.frozen 0; have f1 := hz.frozen 1; have hb5 : Below w3.heap.size w3 W5 := hb4.trans (hb50.mono hle4); have hle5 : w3.heap.size ≤ W5.heap.size := hb5.size)
             | (go_at_call 19; (with_reducible refine (HM2.out _ hb4).mono ?_); rintro e W5 ⟨mv', rfl, hm5, hb50, hown⟩; obtain ⟨p5, n5, c5, rfl⟩ := hm5.shape; have hb5 : Below w3.heap.size w3 W5 := hb4.trans (hb50.mono hle4); have hle5 : w3.heap.size ≤ W5.heap.size := hb5.size)
             | (go_at_call 19; (with_reducible refine (HM2.out _ (hb4.alloc hle4 _)).mono ?_); rintro e W5 ⟨mv', rfl, hm5, hb50, hown⟩; obtain ⟨p5, n5, c5, rfl⟩ := hm5.shape; have hz := (VRow.fresh W4 60 [.slice none 0 0, .slice none 0 0]).below hb50; have y0 := hz.cell (k := 0) rfl; have y1 := hz.cell (k := 1) rfl; have f0 := hz.frozen 0; have f1 := hz.frozen 1; have hb5 : Below w3.heap.size w3 W5 := (hb4.alloc hle4 _).trans (hb50.mono (hb4.alloc hle4 _).size); have hle5 : w3.heap.size ≤ W5.heap.size := hb5.size))
    · go_wp2_with fail
      go_meet
      have hq : VRow (W5.alloc (.cells #[.slice pl nl cl, .slice p5 n5 c5] 60)) W5.heap.size 60 [.slice pl nl cl, .slice p5 n5 c5] := VRow.fresh W5 60 [.slice pl nl cl, .slice p5 n5 c5]
      have hb6 : Below w3.heap.size w3 (W5.alloc (.cells #[.slice pl nl cl, .slice p5 n5 c5] 60)) := hb5.alloc hle5 _
      have hle0 : w3.heap.size ≤ W5.heap.size := by first | exact hle5 | exact hle4 | exact Nat.le_refl _
      have hkq : ∀ k, (Value.slice p5 n5 c5).ownBlock = some k → ¬ k = W5.heap.size := fun k hk e => by have := row_lt hm5 k hk; omega
      have hkb : ∀ k, (Value.slice p5 n5 c5).ownBlock = some k → ¬ k = w.heap.size + 1 + 1 := fun k hk e => by
        have h3 := HV2.out.lt
        rcases hown k hk with h | h
        · have := HPM.out k h; omega
        · have := hb4.size; (try simp at h); omega
      have hkz : ∀ k, (Value.slice p5 n5 c5).ownBlock = some k → (pl = none ∧ pm = none) → w.heap.size ≤ k := fun k hk hz => by
        have h3 := HB2.out.size
        rcases hown k hk with h | h
        · rw [hz.2] at h; cases h
        · have := hb4.size; (try simp at h); omega
      exact ⟨W5.heap.size, p5, n5, c5, rfl, rfl, hq, hb6, hle0, RowC.keep hm5 ((Below.refl _ _).alloc (Nat.le_refl _) _), fun k hk => ⟨hkq k hk, hkb k hk, hkz k hk⟩⟩
    · go_wp2_with fail
      go_meet
      have hq : VRow ((W5.setCell ⟨W4.heap.size, 0, none⟩ (.slice pl nl cl)).setCell ⟨W4.heap.size, 1, none⟩ (.slice p5 n5 c5)) W4.heap.size 60 [.slice pl nl cl, .slice p5 n5 c5] := hz.two _ _
      have hb6 : Below w3.heap.size w3 (((W5.setCell ⟨W4.heap.size, 0, none⟩ (.slice pl nl cl)).setCell ⟨W4.heap.size, 1, none⟩ (.slice p5 n5 c5))) := (hb5.setCell (p := ⟨W4.heap.size, 0, none⟩) hle4 _).setCell (p := ⟨W4.heap.size, 1, none⟩) hle4 _
      have hle0 : w3.heap.size ≤ W4.heap.size := by first | exact hle5 | exact hle4 | exact Nat.le_refl _
      have hkq : ∀ k, (Value.slice p5 n5 c5).ownBlock = some k → ¬ k = W4.heap.size := fun k hk e => by
        rcases hown k hk with h | h
        · have := HPM.out k h; have := HB2.out.size; omega
        · (try simp at h); omega
      have hkb : ∀ k, (Value.slice p5 n5 c5).ownBlock = some k → ¬ k = w.heap.size + 1 + 1 := fun k hk e => by
        have h3 := HV2.out.lt
        rcases hown k hk with h | h
        · have := HPM.out k h; omega
        · have := hb4.size; (try simp at h); omega
      have hkz : ∀ k, (Value.slice p5 n5 c5).ownBlock = some k → (pl = none ∧ pm = none) → w.heap.size ≤ k := fun k hk hz => by
        have h3 := HB2.out.size
        rcases hown k hk with h | h
        · rw [hz.2] at h; cases h
        · have := hb4.size; (try simp at h); omega
      exact ⟨W4.heap.size, p5, n5, c5, rfl, rfl, hq, hb6, hle0, row_put hm5 hkq _ _, fun k hk => ⟨hkq k hk, hkb k hk, hkz k hk⟩⟩
    · go_wp2_with fail
      go_meet
      have hq : VRow ((W5.setCell ⟨w3.heap.size, 0, none⟩ (.slice pl nl cl)).setCell ⟨w3.heap.size, 1, none⟩ (.slice p5 n5 c5)) w3.heap.size 60 [.slice pl nl cl, .slice p5 n5 c5] := hz.two _ _
      have hb6 : Below w3.heap.size w3 (((W5.setCell ⟨w3.heap.size, 0, none⟩ (.slice pl nl cl)).setCell ⟨w3.heap.size, 1, none⟩ (.slice p5 n5 c5))) := (hb5.setCell (p := ⟨w3.heap.size, 0, none⟩) (Nat.le_refl _) _).setCell (p := ⟨w3.heap.size, 1, none⟩) (Nat.le_refl _) _
      have hle0 : w3.heap.size ≤ w3.heap.size := by first | exact hle5 | exact hle4 | exact Nat.le_refl _
      have hkq : ∀ k, (Value.slice p5 n5 c5).ownBlock = some k → ¬ k = w3.heap.size := fun k hk e => by
        have h40 := hb40.size
        simp at h40
        rcases hown k hk with h | h
        · have := HPM.out k h; have := HB2.out.size; omega
        · omega
      have hkb : ∀ k, (Value.slice p5 n5 c5).ownBlock = some k → ¬ k = w.heap.size + 1 + 1 := fun k hk e => by
        have h3 := HV2.out.lt
        rcases hown k hk with h | h
        · have := HPM.out k h; omega
        · have := hb4.size; (try simp at h); omega
      have hkz : ∀ k, (Value.slice p5 n5 c5).ownBlock = some k → (pl = none ∧ pm = none) → w.heap.size ≤ k := fun k hk hz => by
        have h3 := HB2.out.size
        rcases hown k hk with h | h
        · rw [hz.2] at h; cases h
        · have := hb4.size; (try simp at h); omega
      exact ⟨w3.heap.size, p5, n5, c5, rfl, rfl, hq, hb6, hle0, row_put hm5 hkq _ _, fun k hk => ⟨hkq k hk, hkb k hk, hkz k hk⟩⟩
  case rest =>
    obtain ⟨q, p5, n5, c5, rfl, rfl, hq, hb6, hqb, hmk, hoq⟩ := hcut
    clear a0 a1
    obtain ⟨W6, rfl⟩ : ∃ W6 : World, W6 = wc := ⟨_, rfl⟩
    have HX := ahid (And.intro hq hb6)
    have HMK := ahid hmk
    have HOQ := ahid hoq
    have HQL := ahid (fun k hk => row_lt hq0 k hk)
    have hqw : w.heap.size ≤ q := Nat.le_trans HB2.out.size hqb
    clear hq hb6 hmk hoq
    rw [HE.out]
    have b0 := HX.out.1.cell (k := 0) rfl
    have b1 := HX.out.1.cell (k := 1) rfl
    have e0 := HX.out.1.frozen 0
    have e1 := HX.out.1.frozen 1
    obtain ⟨p1, ht⟩ := HP.out _ HX.out.2
    have hdr : Below W6.heap.size W6 W6.drew := (Below.refl _ _).drew
    have HB6 := ahid (HB2.out.trans (HX.out.2.mono HB2.out.size))
    have HNF := ahid (number_any f hf63 W6.drew)
    have HJ := ahid (fun w' (hd : Below W6.heap.size W6 w') => rjump_any w' (.slice pl nl cl) p5 n5 c5 L (show ItemsAt w' (.slice pl nl cl) L from RowC.keep hq0 (HB6.out.trans (hd.mono HB6.out.size))) 18 0 (by omega) (by omega) (nameB' (fNameL f)) (by omega))
    have hlf := decl_len f hf63
    have hl2 : ¬ (9223372036854775807 < 1 + (nameB' (decL f)).size) := by rw [nameB_size]; unfold decL; omega
    have e4 : (⟨#[102]⟩ : ByteArray) ++ nameB' (decL f) = nameB' (fNameL f) := nameB_add [102] (decL f)
    have HC := ahid (show ∀ w', Below W6.heap.size W6 w' → w'.cell? ⟨q, 0, none⟩ = some (.slice pl nl cl) ∧ w'.cell? ⟨q, 1, none⟩ = some (.slice p5 n5 c5) ∧ w'.frozen? ⟨q, 0, none⟩ = false ∧ w'.frozen? ⟨q, 1, none⟩ = false ∧ w'.cell? ⟨w.heap.size + 1, 1, none⟩ = some (.slice (some ⟨bt, ot, none⟩) nt ct) ∧ w'.cell? ⟨bt, ot + n, none⟩ = some (.int .i64 f) from fun w' hd => by
      have hv := HX.out.1.below hd
      obtain ⟨h1, h2⟩ := HP.out w' (HX.out.2.trans (hd.mono HX.out.2.size))
      exact ⟨hv.cell (k := 0) rfl, hv.cell (k := 1) rfl, hv.frozen 0, hv.frozen 1, h1, h2⟩)
    generalize hnF : nameB' (fNameL f) = nmF at HJ e4
    have HNQ := ahid hnF
    clear hnF
    generalize nameB' (decL f) = nmE at *
    go_wp2_with fail
    go_cut [] from 10 (fun W9 => ∃ p8 n8 c8, RB w W9 q p5 n5 c5 (markM M nmT nl) p8 n8 c8 (jumpL L 18 0 nmF) (pl = none ∧ pm = none))
    case first =>
      go_region_law (first
        | (go_simp; go_at_call 40; refine HNF.out.mono ?_; rintro e W7 ⟨rfl, hb70⟩; have hb7 : Below W6.heap.size W6 W7 := hdr.trans hb70; obtain ⟨g0, g1, g2, g3, g4, g5⟩ := HC.out W7 hb7)
        | (go_simp; go_at_call 41; refine (HJ.out _ hb7).mono ?_; rintro e W8 ⟨lv8, rfl, hi8, hb80, hown8⟩; obtain ⟨p8, n8, c8, rfl⟩ := hi8.shape; have hb8 : Below W6.heap.size W6 W8 := hb7.trans (hb80.mono hb7.size); obtain ⟨k0, k1, k2, k3, k4, k5⟩ := HC.out W8 hb8))
      all_goals
        have hI8 : ItemsAt W8 (.slice p8 n8 c8) (jumpL L 18 0 nmF) := hi8
        have hne8 : ∀ k, (Value.slice p8 n8 c8).ownBlock = some k → ¬ k = q ∧ ¬ k = w.heap.size + 1 + 1 ∧ ((pl = none ∧ pm = none) → w.heap.size ≤ k) := fun k hk => by
          have h3 := HV2.out.lt
          have h4 := HX.out.2.size
          have h6 : q < W6.heap.size := World.block_lt_of_cell? _ _ (HC.out W6 (Below.refl _ _)).1
          have h5 := hb7.size
          rcases hown8 k hk with h | h
          · have := HQL.out k h; exact ⟨by omega, by omega, fun hz => by rw [hz.1] at h; cases h⟩
          · have := HB6.out.size; exact ⟨by omega, by omega, fun hz => by omega⟩
        have hM8 : MarksAt W8 (.slice p5 n5 c5) (markM M nmT nl) := RowC.keep HMK.out hb8
        have hqs : w.heap.size + 1 + 1 ≠ q := by have := HV2.out.lt; omega
        have HF := ahid (show RB w ((W8.setCell ⟨q, 0, none⟩ (.slice p8 n8 c8)).setCell ⟨q, 1, none⟩ (.slice p5 n5 c5)) q p5 n5 c5 (markM M nmT nl) p8 n8 c8 (jumpL L 18 0 nmF) (pl = none ∧ pm = none) from
          ⟨(HX.out.1.below hb8).two _ _, row_put hI8 (fun k hk => (hne8 k hk).1) _ _, row_put hM8 (fun k hk => (HOQ.out k hk).1) _ _, hne8, HOQ.out,
            (((HV2.out.below HX.out.2).below hb8).other (a := ⟨q, 0, none⟩) hqs _).other (a := ⟨q, 1, none⟩) hqs _,
            ((HB6.out.trans (hb8.mono HB6.out.size)).setCell (p := ⟨q, 0, none⟩) hqw _).setCell (p := ⟨q, 1, none⟩) hqw _, hqs⟩)
        clear hI8 hne8 hM8 hqs g0 g1 g2 g3 g4 g5 hi8 hb80 hb7 hb70 hown8 b0 b1 e0 e1 p1 ht hdr
      all_goals
        go_wp2_with fail
        go_meet
        exact ⟨_, _, _, HF.out⟩
    case rest =>
      obtain ⟨p8, n8, c8, hv9, hi9, hm9, ho8, ho5, ht9, hb9, hqt⟩ := hcut
      obtain ⟨W9, rfl⟩ : ∃ W9 : World, W9 = wc := ⟨_, rfl⟩
      have HV9 := ahid hv9
      have HI9 := ahid hi9
      have HM9 := ahid hm9
      have H8 := ahid ho8
      have HOQ := ahid ho5
      have HT9 := ahid ht9
      have HB9 := ahid hb9
      clear hv9 hi9 hm9 ho8 ho5 ht9 hb9 b0 b1 e0 e1 p1 ht hdr HC HJ HNF
      have v0 := HV9.out.cell (k := 0) rfl
      have v1 := HV9.out.cell (k := 1) rfl
      have u0 := HV9.out.frozen 0
      have u1 := HV9.out.frozen 1
      by_cases hz : n = 0
      · have q0 : ((n : Int) == 0) = true := by rw [hz]; rfl
        have HIB := ahid (show ∀ y ∈ [twoI 36 0 8 0], y.bd from fun y hy => by
          simp only [List.mem_cons, List.not_mem_nil, or_false] at hy
          subst hy; (unfold Ix.bd; simp only [numI, twoI]; omega))
        have hba := (Below.refl W9.heap.size W9).alloc (Nat.le_refl _) (.cells #[.int .u8 36, .int .u8 0, .int .u8 8, .int .u8 0, .bool false, .int .i32 0] 50)
        have HPU := ahid (rput_any (W9.alloc (.cells #[.int .u8 36, .int .u8 0, .int .u8 8, .int .u8 0, .bool false, .int .i32 0] 50)) (.slice p8 n8 c8) (.slice p5 n5 c5) (jumpL L 18 0 nmF) (RowC.keep HI9.out hba) ⟨_, _, _, rfl⟩ (.slice (some ⟨W9.heap.size, 0, none⟩) 1 1) [twoI 36 0 8 0] (InsIn.one HIB.out W9) (by have := jumpL_len L 18 0 nmF; simp only [List.length_cons, List.length_nil]; omega))
        have HBA := ahid hba
        clear hba
        go_wp2_with fail
        refine HPU.out.mono ?_
        rintro e W10 ⟨lv10, rfl, hi10, hb10, hown10⟩
        obtain ⟨p10, n10, c10, rfl⟩ := hi10.shape
        have hbb := HBA.out.trans (hb10.mono HBA.out.size)
        have hv10 := HV9.out.below hbb
        have ht10 := HT9.out.below hbb
        have hqlt := HV9.out.lt
        have htlt := HT9.out.lt
        have H10 := ahid (show ∀ k, (Value.slice p10 n10 c10).ownBlock = some k → ¬ k = q ∧ ¬ k = w.heap.size + 1 + 1 ∧ ((pl = none ∧ pm = none) → w.heap.size ≤ k) from fun k hk => by
          rcases hown10 k hk with h | h
          · exact H8.out k h
          · have := HBA.out.size
            have := HB9.out.size
            exact ⟨by omega, by omega, fun _ => by omega⟩)
        have HI10 := ahid (show ItemsAt W10 (.slice p10 n10 c10) (putL (jumpL L 18 0 nmF) [stubI n]) from by
          have e : stubI n = twoI 36 0 8 0 := by unfold stubI; rw [if_pos (by omega)]
          rw [e]; exact hi10)
        have HM10 := ahid (show MarksAt W10 (.slice p5 n5 c5) (markM M nmT nl) from RowC.keep HM9.out hbb)
        have HB10 := ahid (HB9.out.trans (hbb.mono HB9.out.size))
        have HBX := ahid (hv10.two (.slice p10 n10 c10) (.slice p5 n5 c5))
        have hqt2 := hqt
        have HTX := ahid ((ht10.other (a := ⟨q, 0, none⟩) hqt (.slice p10 n10 c10)).other (a := ⟨q, 1, none⟩) hqt (.slice p5 n5 c5))
        have v0' := hv10.cell (k := 0) rfl
        have v1' := hv10.cell (k := 1) rfl
        have u0' := hv10.frozen 0
        have u1' := hv10.frozen 1
        have s0 := ht10.cell (k := 0) rfl
        have s1 := ht10.cell (k := 1) rfl
        have s2 := ht10.frozen 0
        have s3 := ht10.frozen 1
        have HIX := ahid (row_put (row_put HI10.out (fun k hk => (H10.out k hk).1) (.slice p10 n10 c10) (.slice p5 n5 c5)) (fun k hk => (H10.out k hk).2.1) (.slice p10 n10 c10) (.slice p5 n5 c5))
        have HZX := ahid (show (pl = none ∧ pm = none) → (∀ k, (Value.slice p10 n10 c10).ownBlock = some k → w.heap.size ≤ k) ∧ ∀ k, (Value.slice p5 n5 c5).ownBlock = some k → w.heap.size ≤ k from fun hz => ⟨fun k hk => (H10.out k hk).2.2 hz, fun k hk => (HOQ.out k hk).2.2 hz⟩)
        have HMX := ahid (row_put (row_put HM10.out (fun k hk => (HOQ.out k hk).1) (.slice p10 n10 c10) (.slice p5 n5 c5)) (fun k hk => (HOQ.out k hk).2.1) (.slice p10 n10 c10) (.slice p5 n5 c5))
        have HEND := ahid ((((HB10.out.setCell (p := ⟨q, 0, none⟩) hqw (.slice p10 n10 c10)).setCell (p := ⟨q, 1, none⟩) hqw (.slice p5 n5 c5)).setCell (p := ⟨w.heap.size + 1 + 1, 0, none⟩) (by show w.heap.size ≤ w.heap.size + 1 + 1; omega) (.slice p10 n10 c10)).setCell (p := ⟨w.heap.size + 1 + 1, 1, none⟩) (by show w.heap.size ≤ w.heap.size + 1 + 1; omega) (.slice p5 n5 c5))
        have HTE := ahid (HTX.out.two (.slice p10 n10 c10) (.slice p5 n5 c5))
        have HZ := ahid hz
        clear v0 v1 u0 u1 hi10 hb10 hown10 hbb hv10 ht10 HPU HBA
        go_wp2_with fail
        clear v0' v1' u0' u1' s0 s1 s2 s3
        generalize (((W10.setCell ⟨q, 0, none⟩ (.slice p10 n10 c10)).setCell ⟨q, 1, none⟩ (.slice p5 n5 c5)).setCell ⟨w.heap.size + 1 + 1, 0, none⟩ (.slice p10 n10 c10)).setCell ⟨w.heap.size + 1 + 1, 1, none⟩ (.slice p5 n5 c5) = W12 at *
        have hr0 := HTE.out.cell (k := 0) rfl
        have hr1 := HTE.out.cell (k := 1) rfl
        refine bodyPost_ret (v := .tuple #[.agg #[.slice p10 n10 c10, .slice p5 n5 c5], .int .i64 0]) (by simp [results, Tryd.results17, go_sem, hr0, hr1]; try rfl) rfl ?_
        refine ⟨⟨_, _, rfl, ?_, HMX.out, by first | exact HZX.out | exact fun h1 h2 => HZX.out ⟨h1, h2⟩⟩, HEND.out⟩
        have h := HIX.out
        rw [← HNQ.out] at h
        first
          | exact h
          | (rw [HZ.out] at h; exact h)
          | (have e : stubI (0 : Int) = stubI (n : Int) := by rw [HZ.out]; rfl
             rw [e]; exact h)
      · have q0 : ((n : Int) == 0) = false := by simp; omega
        have HIB := ahid (show ∀ y ∈ [numI 33 0 0 4], y.bd from fun y hy => by
          simp only [List.mem_cons, List.not_mem_nil, or_false] at hy
          subst hy; (unfold Ix.bd; simp only [numI, twoI]; omega))
        have hdr9 : Below W9.heap.size W9 W9.drew := (Below.refl _ _).drew
        have HNN := ahid (rnum_any (op := 33) (rd := 0) (rs := 0) (n := 4) (by omega) W9.drew)
        have HPU := ahid (fun w' (hd : Below W9.heap.size W9 w') v (hv : InsIn w' v [numI 33 0 0 4]) => rput_any w' (.slice p8 n8 c8) (.slice p5 n5 c5) (jumpL L 18 0 nmF) (RowC.keep HI9.out hd) ⟨_, _, _, rfl⟩ v [numI 33 0 0 4] hv (by have := jumpL_len L 18 0 nmF; simp only [List.length_cons, List.length_nil]; omega))
        have HC9 := ahid (show ∀ w', Below W9.heap.size W9 w' → w'.cell? ⟨q, 0, none⟩ = some (.slice p8 n8 c8) ∧ w'.cell? ⟨q, 1, none⟩ = some (.slice p5 n5 c5) ∧ w'.frozen? ⟨q, 0, none⟩ = false ∧ w'.frozen? ⟨q, 1, none⟩ = false from fun w' hd => by
          have hv := HV9.out.below hd
          exact ⟨hv.cell (k := 0) rfl, hv.cell (k := 1) rfl, hv.frozen 0, hv.frozen 1⟩)
        go_wp2_with fail
        go_cut [] from 10 (fun W12 => ∃ p10 n10 c10, RB w W12 q p5 n5 c5 (markM M nmT nl) p10 n10 c10 (putL (jumpL L 18 0 nmF) [stubI n]) (pl = none ∧ pm = none))
        case first =>
          go_region_law (first
            | (go_simp; go_at_call 43; refine HNN.out.mono ?_; rintro e Wn ⟨rfl, hbn0⟩; have hbn : Below W9.heap.size W9 Wn := hdr9.trans hbn0; have hbw : Below W9.heap.size W9 (Wn.alloc (.cells #[.int .u8 (numI 33 0 0 4).op, .int .u8 (numI 33 0 0 4).rd, .int .u8 (numI 33 0 0 4).rs1, .int .u8 (numI 33 0 0 4).rs2, .bool (numI 33 0 0 4).is, .int .i32 (numI 33 0 0 4).imm] 50)) := hbn.alloc hbn.size _; obtain ⟨j0, j1, j2, j3⟩ := HC9.out Wn hbn; obtain ⟨m0, m1, m2, m3⟩ := HC9.out _ hbw)
            | (go_simp; go_at_call 42; refine (HPU.out _ hbw _ (InsIn.one HIB.out Wn)).mono ?_; rintro e W10 ⟨lv10, rfl, hi10, hb10, hown10⟩; obtain ⟨p10, n10, c10, rfl⟩ := hi10.shape; obtain ⟨l0, l1, l2, l3⟩ := HC9.out W10 (hbw.trans (hb10.mono hbw.size))))
          all_goals
            have hbb := hbw.trans (hb10.mono hbw.size)
            have hqlt := HV9.out.lt
            have htlt := HT9.out.lt
            have h10 : ∀ k, (Value.slice p10 n10 c10).ownBlock = some k → ¬ k = q ∧ ¬ k = w.heap.size + 1 + 1 ∧ ((pl = none ∧ pm = none) → w.heap.size ≤ k) := fun k hk => by
              rcases hown10 k hk with h | h
              · exact H8.out k h
              · have := hbw.size
                have := HB9.out.size
                exact ⟨by omega, by omega, fun _ => by omega⟩
            have hi10' : ItemsAt W10 (.slice p10 n10 c10) (putL (jumpL L 18 0 nmF) [stubI n]) := by
              have e : stubI n = numI 33 0 0 4 := by unfold stubI; rw [if_neg (by omega)]
              rw [e]; exact hi10
            have hm10 : MarksAt W10 (.slice p5 n5 c5) (markM M nmT nl) := RowC.keep HM9.out hbb
            have HF := ahid (show RB w ((W10.setCell ⟨q, 0, none⟩ (.slice p10 n10 c10)).setCell ⟨q, 1, none⟩ (.slice p5 n5 c5)) q p5 n5 c5 (markM M nmT nl) p10 n10 c10 (putL (jumpL L 18 0 nmF) [stubI n]) (pl = none ∧ pm = none) from
              ⟨(HV9.out.below hbb).two _ _, row_put hi10' (fun k hk => (h10 k hk).1) _ _, row_put hm10 (fun k hk => (HOQ.out k hk).1) _ _, h10, HOQ.out,
                ((HT9.out.below hbb).other (a := ⟨q, 0, none⟩) hqt _).other (a := ⟨q, 1, none⟩) hqt _,
                ((HB9.out.trans (hbb.mono HB9.out.size)).setCell (p := ⟨q, 0, none⟩) hqw _).setCell (p := ⟨q, 1, none⟩) hqw _, hqt⟩)
            clear h10 hi10' hm10 hbb hi10 hb10 hown10 hbw
          all_goals
            go_wp2_with fail
            go_meet
            exact ⟨_, _, _, HF.out⟩
        case rest =>
          obtain ⟨p10, n10, c10, hv10, hi10, hm10, h10, ho5, ht10, hb10, -⟩ := hcut
          obtain ⟨W10, rfl⟩ : ∃ W10 : World, W10 = wc := ⟨_, rfl⟩
          have HIX := ahid (row_put hi10 (fun k hk => (h10 k hk).2.1) (.slice p10 n10 c10) (.slice p5 n5 c5))
          have HZX := ahid (show (pl = none ∧ pm = none) → (∀ k, (Value.slice p10 n10 c10).ownBlock = some k → w.heap.size ≤ k) ∧ ∀ k, (Value.slice p5 n5 c5).ownBlock = some k → w.heap.size ≤ k from fun hz => ⟨fun k hk => (h10 k hk).2.2 hz, fun k hk => (ho5 k hk).2.2 hz⟩)
          have HMX := ahid (row_put hm10 (fun k hk => (ho5 k hk).2.1) (.slice p10 n10 c10) (.slice p5 n5 c5))
          have HEND := ahid ((hb10.setCell (p := ⟨w.heap.size + 1 + 1, 0, none⟩) (by show w.heap.size ≤ w.heap.size + 1 + 1; omega) (.slice p10 n10 c10)).setCell (p := ⟨w.heap.size + 1 + 1, 1, none⟩) (by show w.heap.size ≤ w.heap.size + 1 + 1; omega) (.slice p5 n5 c5))
          have HTE := ahid (ht10.two (.slice p10 n10 c10) (.slice p5 n5 c5))
          have v0' := hv10.cell (k := 0) rfl
          have v1' := hv10.cell (k := 1) rfl
          have s0 := ht10.cell (k := 0) rfl
          have s1 := ht10.cell (k := 1) rfl
          have s2 := ht10.frozen 0
          have s3 := ht10.frozen 1
          have HZ := ahid hz
          clear v0 v1 u0 u1 hv10 hi10 hm10 h10 ho5 ht10 hb10 HNN HPU HC9 hdr9 hz
          go_wp2_with fail
          clear v0' v1' s0 s1 s2 s3
          generalize (W10.setCell ⟨w.heap.size + 1 + 1, 0, none⟩ (.slice p10 n10 c10)).setCell ⟨w.heap.size + 1 + 1, 1, none⟩ (.slice p5 n5 c5) = W12 at *
          have hr0 := HTE.out.cell (k := 0) rfl
          have hr1 := HTE.out.cell (k := 1) rfl
          refine bodyPost_ret (v := .tuple #[.agg #[.slice p10 n10 c10, .slice p5 n5 c5], .int .i64 0]) (by simp [results, Tryd.results17, go_sem, hr0, hr1]; try rfl) rfl ?_
          refine ⟨⟨_, _, rfl, ?_, HMX.out, by first | exact HZX.out | exact fun h1 h2 => HZX.out ⟨h1, h2⟩⟩, HEND.out⟩
          have h := HIX.out
          rw [← HNQ.out] at h
          exact h
end Go.Proofs.YtfbbodaapkfbdaaDoor
