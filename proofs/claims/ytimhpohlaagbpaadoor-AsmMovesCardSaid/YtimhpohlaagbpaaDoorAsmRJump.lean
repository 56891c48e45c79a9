/- The document's list (muntinref07): Jump. -/
import Derived.Test.YtimhpohlaagbpaaDoorAsmRPut
import Derived.Test.YtimhpohlaagbpaaDoorAsmStep
namespace Go.Proofs.YtimhpohlaagbpaaDoor
open Go.RowKit Go.Maps
set_option linter.unusedVariables false
set_option linter.unusedSimpArgs false
/-- What Jump of the document leaves. -/
def RJumpOk (w : World) (lv mv : Value) (L : List It) (op c : Int) (nm : ByteArray) (e : Ending) (w' : World) : Prop :=
  ∃ lv', e = .returned (.tuple #[.agg #[lv', mv], .int .i64 (if c ≤ 6 then 0 else 2)]) ∧ ItemsAt w' lv' (if c ≤ 6 then L ++ [.far ⟨op, c, 0, 0, true, 0⟩ nm] else L) ∧ Below w.heap.size w w' ∧ ∀ k, lv'.ownBlock = some k → lv.ownBlock = some k ∨ w.heap.size ≤ k
theorem RJumpOk.yes {w w' : World} {lv mv lv' : Value} {L : List It} {op c : Int} {nm : ByteArray} (h : c ≤ 6) (hi : ItemsAt w' lv' (L ++ [.far ⟨op, c, 0, 0, true, 0⟩ nm])) (hb : Below w.heap.size w w') (hk : ∀ k, lv'.ownBlock = some k → w.heap.size ≤ k) : RJumpOk w lv mv L op c nm (.returned (.tuple #[.agg #[lv', mv], .int .i64 0])) w' :=
  ⟨lv', by rw [if_pos h], by rw [if_pos h]; exact hi, hb, fun k e => .inr (hk k e)⟩
theorem row_fin {w2 : World} {B b size n : Nat} {e : TypeId} {v : Value} {cs : List Value} (ho : w2.ownsRow B e size v n cs) (hb : b < B) (x y : Value) : RowC ((w2.setCell ⟨b, 0, none⟩ x).setCell ⟨b, 1, none⟩ y) v size n cs :=
  (RowC.of_own ho).keepO (Box2.only (S := fun k => k = b) (Only.refl _ w2) rfl x y) (fun k hk e => by have := (ho.lt k hk).1; omega)
theorem items_fin {w2 : World} {B b n : Nat} {e : TypeId} {v : Value} {cs : List Value} {L : List It} (ho : w2.ownsRow B e 8 v n cs) (hn : n = L.length) (hcs : cs = L.flatMap It.cells) (hb : b < B) (x y : Value) : ItemsAt ((w2.setCell ⟨b, 0, none⟩ x).setCell ⟨b, 1, none⟩ y) v L := by
  subst hn; subst hcs; exact row_fin ho hb x y
theorem RJumpOk.no {w w' : World} {mv lv : Value} {L : List It} {op c : Int} {nm : ByteArray} (h : ¬ c ≤ 6) (hi : ItemsAt w' lv L) (hb : Below w.heap.size w w') : RJumpOk w lv mv L op c nm (.returned (.tuple #[.agg #[lv, mv], .int .i64 2])) w' :=
  ⟨lv, by rw [if_neg h], by rw [if_neg h]; exact hi, hb, fun k e => .inl e⟩
set_option maxRecDepth 100000 in
set_option maxHeartbeats 2000000 in
theorem rjump_no (w : World) (lv : Value) (pm : Option Addr) (nm' cm : Nat) (L : List It) (hq : ItemsAt w lv L) (op c : Int) (hc : ¬ c ≤ 6) (nm : ByteArray) :
    Calls Tryd.prog 26 #[.agg #[lv, .slice pm nm' cm], .int .u8 op, .int .u8 c, .string nm] w (RJumpOk w lv (.slice pm nm' cm) L op c nm) := by
  have HQ := ahid hq
  obtain ⟨pl, nl, cl, rfl⟩ := hq.shape
  have HC := ahid hc
  have hc6 : 6 < c := by omega
  clear hq hc
  have HB0 := ahid ((Box2.new w (.slice pl nl cl) (.slice pm nm' cm) 33).al (.cells #[.slice none 0 0, .slice none 0 0] 33))
  have HR0 : Hid (Box2 ((w.alloc (.cells #[.slice pl nl cl, .slice pm nm' cm] 33)).alloc (.cells #[.slice none 0 0, .slice none 0 0] 33)) (w.heap.size + 1) (.slice none 0 0) (.slice none 0 0)) := by
    have := Box2.new (w.alloc (.cells #[.slice pl nl cl, .slice pm nm' cm] 33)) (.slice none 0 0) (.slice none 0 0) 33
    rw [show (w.alloc (.cells #[.slice pl nl cl, .slice pm nm' cm] 33)).heap.size = w.heap.size + 1 by simp] at this
    exact ahid this
  go_enter Tryd.func26, Tryd.ntmps26
  go_wp2_with fail
  have hS := Box2.new (w.alloc (.cells #[.slice pl nl cl, .slice pm nm' cm] 33)) (.slice pl nl cl) (.slice pm nm' cm) 33
  rw [show (w.alloc (.cells #[.slice pl nl cl, .slice pm nm' cm] 33)).heap.size = w.heap.size + 1 by simp] at hS
  have hbel : Below w.heap.size w ((w.alloc (.cells #[.slice pl nl cl, .slice pm nm' cm] 33)).alloc (.cells #[.slice pl nl cl, .slice pm nm' cm] 33)) := ((Below.refl _ _).alloc (Nat.le_refl _) _).alloc (by simp) _
  have hfin := RJumpOk.no (op := op) (nm := nm) (mv := .slice pm nm' cm) (show ¬ c ≤ 6 by omega) (HQ.out.keep hbel) hbel
  clear hbel HB0 HR0
  generalize (w.alloc (.cells #[.slice pl nl cl, .slice pm nm' cm] 33)).alloc (.cells #[.slice pl nl cl, .slice pm nm' cm] 33) = W9 at *
  obtain ⟨s0, s1, _, _⟩ := hS
  refine bodyPost_ret (by simp [results, Tryd.results26, go_sem, s0, s1]; try rfl) rfl ?_
  exact hfin
theorem cells6 (w : World) (x : Ix) : InsAt (w.alloc (.cells #[.int .u8 x.op, .int .u8 x.rd, .int .u8 x.rs1, .int .u8 x.rs2, .bool x.is, .int .i32 x.imm] 58)) w.heap.size 0 x ∨ ¬ x.bd := by
  by_cases hb : x.bd
  · refine .inl (InsAt.of_cells hb fun j u hu => ?_)
    rw [Nat.zero_add]
    simp only [World.cell?, heap_alloc_new w _]
    simpa [Ix.cells] using hu
  · exact .inr hb
set_option maxRecDepth 100000 in
set_option maxHeartbeats 2000000 in
theorem rjump_yes (w : World) (lv : Value) (pm : Option Addr) (nm' cm : Nat) (L : List It) (hq : ItemsAt w lv L) (op c : Int) (ho : 0 ≤ op ∧ op < 256) (hc0 : 0 ≤ c) (hc : c ≤ 6) (nm : ByteArray) (hL : L.length < 4294967296) :
    Calls Tryd.prog 26 #[.agg #[lv, .slice pm nm' cm], .int .u8 op, .int .u8 c, .string nm] w (RJumpOk w lv (.slice pm nm' cm) L op c nm) := by
  have HQ := ahid hq
  have hq2 := hq.2
  obtain ⟨pl, nl, cl, rfl⟩ := hq.shape
  have HC := ahid (And.intro hc0 (And.intro hc ho))
  have hc6 : ¬ 6 < c := by omega
  clear hq ho hc0
  obtain ⟨i0, hi, hz0, hz1, hz2⟩ := info_parts info8i
  have HII := ahid (And.intro hi (And.intro hz0 (And.intro hz1 hz2)))
  clear hi hz0 hz1 hz2
  have HB0 := ((Box2.new w (.slice pl nl cl) (.slice pm nm' cm) 33).al (.cells #[.slice none 0 0, .slice none 0 0] 33)).al (.cells #[.int .u8 op, .int .u8 c, .int .u8 0, .int .u8 0, .bool true, .int .i32 0] 58)
  have HR0 : Box2 (((w.alloc (.cells #[.slice pl nl cl, .slice pm nm' cm] 33)).alloc (.cells #[.slice none 0 0, .slice none 0 0] 33)).alloc (.cells #[.int .u8 op, .int .u8 c, .int .u8 0, .int .u8 0, .bool true, .int .i32 0] 58)) (w.heap.size + 1) (.slice none 0 0) (.slice none 0 0) := by
    have := Box2.new (w.alloc (.cells #[.slice pl nl cl, .slice pm nm' cm] 33)) (.slice none 0 0) (.slice none 0 0) 33
    rw [show (w.alloc (.cells #[.slice pl nl cl, .slice pm nm' cm] 33)).heap.size = w.heap.size + 1 by simp] at this
    exact this.al _
  have HX0 : InsAt (((w.alloc (.cells #[.slice pl nl cl, .slice pm nm' cm] 33)).alloc (.cells #[.slice none 0 0, .slice none 0 0] 33)).alloc (.cells #[.int .u8 op, .int .u8 c, .int .u8 0, .int .u8 0, .bool true, .int .i32 0] 58)) (w.heap.size + 2) 0 ⟨op, c, 0, 0, true, 0⟩ := by
    have := cells6 ((w.alloc (.cells #[.slice pl nl cl, .slice pm nm' cm] 33)).alloc (.cells #[.slice none 0 0, .slice none 0 0] 33)) ⟨op, c, 0, 0, true, 0⟩
    rw [show ((w.alloc (.cells #[.slice pl nl cl, .slice pm nm' cm] 33)).alloc (.cells #[.slice none 0 0, .slice none 0 0] 33)).heap.size = w.heap.size + 2 by simp] at this
    rcases this with h | h
    · exact h
    · exact absurd (by have := HC.out; unfold Ix.bd; simp only; omega) h
  have HBW : Below w.heap.size w (((w.alloc (.cells #[.slice pl nl cl, .slice pm nm' cm] 33)).alloc (.cells #[.slice none 0 0, .slice none 0 0] 33)).alloc (.cells #[.int .u8 op, .int .u8 c, .int .u8 0, .int .u8 0, .bool true, .int .i32 0] 58)) := (((Below.refl _ _).alloc (Nat.le_refl _) _).alloc (by simp) _).alloc (by simp; omega) _
  have HSZ : (((w.alloc (.cells #[.slice pl nl cl, .slice pm nm' cm] 33)).alloc (.cells #[.slice none 0 0, .slice none 0 0] 33)).alloc (.cells #[.int .u8 op, .int .u8 c, .int .u8 0, .int .u8 0, .bool true, .int .i32 0] 58)).heap.size = w.heap.size + 3 := by simp
  replace HB0 := ahid HB0
  replace HR0 := ahid HR0
  replace HX0 := ahid HX0
  replace HBW := ahid HBW
  replace HSZ := ahid HSZ
  go_enter Tryd.func26, Tryd.ntmps26
  go_wp2_with fail
  generalize ((w.alloc (.cells #[.slice pl nl cl, .slice pm nm' cm] 33)).alloc (.cells #[.slice none 0 0, .slice none 0 0] 33)).alloc (.cells #[.int .u8 op, .int .u8 c, .int .u8 0, .int .u8 0, .bool true, .int .i32 0] 58) = W at *
  rcases hq2 with ⟨hv, hl0⟩ | ⟨g, cap, hv, hcap1, hcap2, hg, hcells⟩
  · cases hv
    have HKS := ahid (show ∀ w', Below (w.heap.size + 3) W w' → w'.cell? ⟨w.heap.size, 0, none⟩ = some (.slice none 0 0) ∧ w'.cell? ⟨w.heap.size, 1, none⟩ = some (.slice pm nm' cm) ∧ w'.cell? ⟨w.heap.size + 1 + 1, 0, none⟩ = some (.int .u8 op) ∧ w'.cell? ⟨w.heap.size + 1 + 1, 1, none⟩ = some (.int .u8 c) ∧ w'.cell? ⟨w.heap.size + 1 + 1, 2, none⟩ = some (.int .u8 0) ∧ w'.cell? ⟨w.heap.size + 1 + 1, 3, none⟩ = some (.int .u8 0) ∧ w'.cell? ⟨w.heap.size + 1 + 1, 4, none⟩ = some (.bool true) ∧ w'.cell? ⟨w.heap.size + 1 + 1, 5, none⟩ = some (.int .i32 0) from fun w' hb => by
      have h1 := HB0.out.keepB hb (by omega)
      have k : ∀ (i : Nat) (u : Value), W.cell? ⟨w.heap.size + 2, i, none⟩ = some u → w'.cell? ⟨w.heap.size + 1 + 1, i, none⟩ = some u := fun i u h => (hb.cell (p := ⟨w.heap.size + 2, i, none⟩) (by show w.heap.size + 2 < w.heap.size + 3; omega)).trans h
      exact ⟨h1.c0, h1.c1, k 0 _ HX0.out.c0, k 1 _ HX0.out.c1, k 2 _ HX0.out.c2, k 3 _ HX0.out.c3, k 4 _ HX0.out.c4, k 5 _ HX0.out.c5⟩)
    have HKS2 := ahid (show ∀ w' u v, Below (w.heap.size + 3) W w' → (fun w' => w'.cell? ⟨w.heap.size, 0, none⟩ = some (.slice none 0 0) ∧ w'.cell? ⟨w.heap.size, 1, none⟩ = some (.slice pm nm' cm) ∧ w'.cell? ⟨w.heap.size + 1 + 1, 0, none⟩ = some (.int .u8 op) ∧ w'.cell? ⟨w.heap.size + 1 + 1, 1, none⟩ = some (.int .u8 c) ∧ w'.cell? ⟨w.heap.size + 1 + 1, 2, none⟩ = some (.int .u8 0) ∧ w'.cell? ⟨w.heap.size + 1 + 1, 3, none⟩ = some (.int .u8 0) ∧ w'.cell? ⟨w.heap.size + 1 + 1, 4, none⟩ = some (.bool true) ∧ w'.cell? ⟨w.heap.size + 1 + 1, 5, none⟩ = some (.int .i32 0)) ((w'.setCell ⟨w.heap.size + 1, 0, none⟩ u).setCell ⟨w.heap.size + 1, 1, none⟩ v) from fun w' u v hb => by
      have h1 := HKS.out w' hb
      have k : ∀ (b i : Nat) (x : Value), b ≠ w.heap.size + 1 → w'.cell? ⟨b, i, none⟩ = some x → ((w'.setCell ⟨w.heap.size + 1, 0, none⟩ u).setCell ⟨w.heap.size + 1, 1, none⟩ v).cell? ⟨b, i, none⟩ = some x := fun b i x hne h => ((World.cell?_setCell_far _ _ _ _ (fun e => hne e.symm)).trans (World.cell?_setCell_far _ _ _ _ (fun e => hne e.symm))).trans h
      exact ⟨k _ _ _ (by omega) h1.1, k _ _ _ (by omega) h1.2.1, k _ _ _ (by omega) h1.2.2.1, k _ _ _ (by omega) h1.2.2.2.1, k _ _ _ (by omega) h1.2.2.2.2.1, k _ _ _ (by omega) h1.2.2.2.2.2.1, k _ _ _ (by omega) h1.2.2.2.2.2.2.1, k _ _ _ (by omega) h1.2.2.2.2.2.2.2⟩)
    have HLE := ahid (show w.heap.size + 3 ≤ W.heap.size by have := HSZ.out; omega)
    have hi := HII.out.1
    have hbl0 := Below.refl (w.heap.size + 3) W
    have hle : w.heap.size + 3 ≤ W.heap.size := HLE.out
    have HW1 : Hid ((W.alloc (.cells #[] 80)).ownsRow (w.heap.size + 3) 80 8 (.slice (some ⟨W.heap.size, 0, none⟩) 0 0) 0 []) := ahid (World.ownsRow_made W #[] 0 hle (Nat.zero_le _) rfl)
    have HW2 : Hid (((W.alloc (.cells #[.int .u8 op, .int .u8 c, .int .u8 0, .int .u8 0, .bool true, .int .i32 0, .bool true, .string nm] 80)).alloc (.cells #[] 80)).ownsRow (w.heap.size + 3) 80 8 (.slice (some ⟨W.heap.size + 1, 0, none⟩) 0 0) 0 []) := by
      have h := World.ownsRow_made (base := w.heap.size + 3) (size := 8) (e := 80) (W.alloc (.cells #[.int .u8 op, .int .u8 c, .int .u8 0, .int .u8 0, .bool true, .int .i32 0, .bool true, .string nm] 80)) #[] 0 (by simp; omega) (Nat.zero_le _) rfl
      rw [show (W.alloc (.cells #[.int .u8 op, .int .u8 c, .int .u8 0, .int .u8 0, .bool true, .int .i32 0, .bool true, .string nm] 80)).heap.size = W.heap.size + 1 by simp] at h
      exact ahid h
    have HN1 : Hid (∀ (j : Nat) u, [.int .u8 op, .int .u8 c, .int .u8 0, .int .u8 0, .bool true, .int .i32 0, .bool true, .string nm][j]? = some u → ((W.alloc (.cells #[] 80)).alloc (.cells #[.int .u8 op, .int .u8 c, .int .u8 0, .int .u8 0, .bool true, .int .i32 0, .bool true, .string nm] 80)).drew.cell? ((⟨W.heap.size + 1, 0, none⟩ : Addr).add j) = some u) := by
      have h := cells_new (W.alloc (.cells #[] 80)) #[.int .u8 op, .int .u8 c, .int .u8 0, .int .u8 0, .bool true, .int .i32 0, .bool true, .string nm] 80
      rw [show (W.alloc (.cells #[] 80)).heap.size = W.heap.size + 1 by simp] at h
      exact ahid h
    have HN2 : Hid (∀ (j : Nat) u, [.int .u8 op, .int .u8 c, .int .u8 0, .int .u8 0, .bool true, .int .i32 0, .bool true, .string nm][j]? = some u → ((W.alloc (.cells #[.int .u8 op, .int .u8 c, .int .u8 0, .int .u8 0, .bool true, .int .i32 0, .bool true, .string nm] 80)).alloc (.cells #[] 80)).drew.cell? ((⟨W.heap.size, 0, none⟩ : Addr).add j) = some u) := ahid fun j u hu => Lib.cell?_alloc_some _ (cells_new W #[.int .u8 op, .int .u8 c, .int .u8 0, .int .u8 0, .bool true, .int .i32 0, .bool true, .string nm] 80 j u hu)
    go_region_held3 (fun w' => w'.cell? ⟨w.heap.size, 0, none⟩ = some (.slice none 0 0) ∧ w'.cell? ⟨w.heap.size, 1, none⟩ = some (.slice pm nm' cm) ∧ w'.cell? ⟨w.heap.size + 1 + 1, 0, none⟩ = some (.int .u8 op) ∧ w'.cell? ⟨w.heap.size + 1 + 1, 1, none⟩ = some (.int .u8 c) ∧ w'.cell? ⟨w.heap.size + 1 + 1, 2, none⟩ = some (.int .u8 0) ∧ w'.cell? ⟨w.heap.size + 1 + 1, 3, none⟩ = some (.int .u8 0) ∧ w'.cell? ⟨w.heap.size + 1 + 1, 4, none⟩ = some (.bool true) ∧ w'.cell? ⟨w.heap.size + 1 + 1, 5, none⟩ = some (.int .i32 0)) (first | (refine HKS.out _ ?_; go_grown; done) | (refine HKS2.out _ _ _ ?_; go_grown; done))
      (first
        | (refine step_append_none _ (by rfl) (.tmp 17) (.tmp 19) 30 (by rfl) (w.heap.size + 3) 80 i0 8 Tryd.underlying30 hi (.slice (some ⟨W.heap.size, 0, none⟩) 0 0) 0 [] (by rfl) HW1.out.drew (by rfl) ?_)
        | (refine step_append_none _ (by rfl) (.tmp 17) (.tmp 19) 30 (by rfl) (w.heap.size + 3) 80 i0 8 Tryd.underlying30 hi (.slice (some ⟨W.heap.size, 0, none⟩) 0 0) 0 [] (by rfl) ((HW1.out.alloc _).drew) (by rfl) ?_)
        | (refine step_append_none _ (by rfl) (.tmp 17) (.tmp 19) 30 (by rfl) (w.heap.size + 3) 80 i0 8 Tryd.underlying30 hi (.slice (some ⟨W.heap.size + 1, 0, none⟩) 0 0) 0 [] (by rfl) HW2.out.drew (by rfl) ?_)
        | (refine step_append_some _ (by rfl) (.tmp 20) (.tmp 24) 30 (by rfl) (w.heap.size + 3) 80 i0 _ 8 32 Tryd.underlying30 hi HII.out.2.1 HII.out.2.2.1 HII.out.2.2.2 rfl (by decide) W.heap.size (0) 0 ([]) (by rfl) ((HW1.out.alloc _).drew) ⟨W.heap.size + 1, 0, none⟩ (1) 1 ([.int .u8 op, .int .u8 c, .int .u8 0, .int .u8 0, .bool true, .int .i32 0, .bool true, .string nm]) (by rfl) (by rfl) HN1.out (by simp [Value.oneCell']) (by unfold maxLen; omega) (by omega) (by first | exact hle | (simp; omega) | (have := hbA.size; simp; omega)) ?_; intro g2 cap2 w2 hown2 hg2; have hb2 : Below (w.heap.size + 3) W w2 := Below.grown (by go_grown) hg2 (by first | exact hle | (simp; omega) | (have := hbA.size; simp; omega)) (by intro k hk; cases hk; first | exact hle | omega | exact (hownA.lt _ rfl).1); obtain ⟨r0, r1, rf0, rf1⟩ := HR0.out.keepB hb2 (by omega))
        | (refine step_append_some _ (by rfl) (.tmp 20) (.tmp 24) 30 (by rfl) (w.heap.size + 3) 80 i0 _ 8 32 Tryd.underlying30 hi HII.out.2.1 HII.out.2.2.1 HII.out.2.2.2 rfl (by decide) (W.heap.size + 1) (0) 0 ([]) (by rfl) HW2.out.drew ⟨W.heap.size, 0, none⟩ (1) 1 ([.int .u8 op, .int .u8 c, .int .u8 0, .int .u8 0, .bool true, .int .i32 0, .bool true, .string nm]) (by rfl) (by rfl) HN2.out (by simp [Value.oneCell']) (by unfold maxLen; omega) (by omega) (by first | exact hle | (simp; omega) | (have := hbA.size; simp; omega)) ?_; intro g2 cap2 w2 hown2 hg2; have hb2 : Below (w.heap.size + 3) W w2 := Below.grown (by go_grown) hg2 (by first | exact hle | (simp; omega) | (have := hbA.size; simp; omega)) (by intro k hk; cases hk; first | exact hle | omega | exact (hownA.lt _ rfl).1); obtain ⟨r0, r1, rf0, rf1⟩ := HR0.out.keepB hb2 (by omega)))
    all_goals
      go_wp2_with fail
      have hS := (Box2.mk r0 r1 rf0 rf1).set (.slice (some ⟨g2, 0, none⟩) 1 cap2) (.slice pm nm' cm)
      have hbel : Below w.heap.size w ((w2.setCell ⟨w.heap.size + 1, 0, none⟩ (.slice (some ⟨g2, 0, none⟩) 1 cap2)).setCell ⟨w.heap.size + 1, 1, none⟩ (.slice pm nm' cm)) := ((HBW.out.trans (hb2.mono (by omega))).setCell (by simp) _).setCell (by simp) _
      have hit : ItemsAt ((w2.setCell ⟨w.heap.size + 1, 0, none⟩ (.slice (some ⟨g2, 0, none⟩) 1 cap2)).setCell ⟨w.heap.size + 1, 1, none⟩ (.slice pm nm' cm)) (.slice (some ⟨g2, 0, none⟩) 1 cap2) (L ++ [.far ⟨op, c, 0, 0, true, 0⟩ nm]) := items_fin hown2 (by rw [List.length_append, hl0]; rfl) (by rw [List.eq_nil_of_length_eq_zero hl0]; rfl) (by omega) _ _
      have hfin := RJumpOk.yes (lv := (.slice none 0 0)) (mv := .slice pm nm' cm) hc6 hit hbel (fun kk hkk => by have := (hown2.lt kk hkk).1; omega)
      clear hit hbel r0 r1 rf0 rf1 hown2 hg2 hb2 HKS HKS2 HW1 HW2 HN1 HN2 HR0 HB0 HX0
      generalize (w2.setCell ⟨w.heap.size + 1, 0, none⟩ (.slice (some ⟨g2, 0, none⟩) 1 cap2)).setCell ⟨w.heap.size + 1, 1, none⟩ (.slice pm nm' cm) = W9 at *
      obtain ⟨s0, s1, _, _⟩ := hS
      refine bodyPost_ret (by simp [results, Tryd.results26, go_sem, s0, s1]; try rfl) rfl ?_
      exact hfin
  · cases hv
    have HKS := ahid (show ∀ w', Below (w.heap.size + 3) W w' → w'.cell? ⟨w.heap.size, 0, none⟩ = some (.slice (some ⟨g, 0, none⟩) L.length cl) ∧ w'.cell? ⟨w.heap.size, 1, none⟩ = some (.slice pm nm' cm) ∧ w'.cell? ⟨w.heap.size + 1 + 1, 0, none⟩ = some (.int .u8 op) ∧ w'.cell? ⟨w.heap.size + 1 + 1, 1, none⟩ = some (.int .u8 c) ∧ w'.cell? ⟨w.heap.size + 1 + 1, 2, none⟩ = some (.int .u8 0) ∧ w'.cell? ⟨w.heap.size + 1 + 1, 3, none⟩ = some (.int .u8 0) ∧ w'.cell? ⟨w.heap.size + 1 + 1, 4, none⟩ = some (.bool true) ∧ w'.cell? ⟨w.heap.size + 1 + 1, 5, none⟩ = some (.int .i32 0) from fun w' hb => by
      have h1 := HB0.out.keepB hb (by omega)
      have k : ∀ (i : Nat) (u : Value), W.cell? ⟨w.heap.size + 2, i, none⟩ = some u → w'.cell? ⟨w.heap.size + 1 + 1, i, none⟩ = some u := fun i u h => (hb.cell (p := ⟨w.heap.size + 2, i, none⟩) (by show w.heap.size + 2 < w.heap.size + 3; omega)).trans h
      exact ⟨h1.c0, h1.c1, k 0 _ HX0.out.c0, k 1 _ HX0.out.c1, k 2 _ HX0.out.c2, k 3 _ HX0.out.c3, k 4 _ HX0.out.c4, k 5 _ HX0.out.c5⟩)
    have HKS2 := ahid (show ∀ w' u v, Below (w.heap.size + 3) W w' → (fun w' => w'.cell? ⟨w.heap.size, 0, none⟩ = some (.slice (some ⟨g, 0, none⟩) L.length cl) ∧ w'.cell? ⟨w.heap.size, 1, none⟩ = some (.slice pm nm' cm) ∧ w'.cell? ⟨w.heap.size + 1 + 1, 0, none⟩ = some (.int .u8 op) ∧ w'.cell? ⟨w.heap.size + 1 + 1, 1, none⟩ = some (.int .u8 c) ∧ w'.cell? ⟨w.heap.size + 1 + 1, 2, none⟩ = some (.int .u8 0) ∧ w'.cell? ⟨w.heap.size + 1 + 1, 3, none⟩ = some (.int .u8 0) ∧ w'.cell? ⟨w.heap.size + 1 + 1, 4, none⟩ = some (.bool true) ∧ w'.cell? ⟨w.heap.size + 1 + 1, 5, none⟩ = some (.int .i32 0)) ((w'.setCell ⟨w.heap.size + 1, 0, none⟩ u).setCell ⟨w.heap.size + 1, 1, none⟩ v) from fun w' u v hb => by
      have h1 := HKS.out w' hb
      have k : ∀ (b i : Nat) (x : Value), b ≠ w.heap.size + 1 → w'.cell? ⟨b, i, none⟩ = some x → ((w'.setCell ⟨w.heap.size + 1, 0, none⟩ u).setCell ⟨w.heap.size + 1, 1, none⟩ v).cell? ⟨b, i, none⟩ = some x := fun b i x hne h => ((World.cell?_setCell_far _ _ _ _ (fun e => hne e.symm)).trans (World.cell?_setCell_far _ _ _ _ (fun e => hne e.symm))).trans h
      exact ⟨k _ _ _ (by omega) h1.1, k _ _ _ (by omega) h1.2.1, k _ _ _ (by omega) h1.2.2.1, k _ _ _ (by omega) h1.2.2.2.1, k _ _ _ (by omega) h1.2.2.2.2.1, k _ _ _ (by omega) h1.2.2.2.2.2.1, k _ _ _ (by omega) h1.2.2.2.2.2.2.1, k _ _ _ (by omega) h1.2.2.2.2.2.2.2⟩)
    have HLE := ahid (show w.heap.size + 3 ≤ W.heap.size by have := HSZ.out; omega)
    have HSRC := ahid (fun (j : Nat) (u : Value) (hu : (L.flatMap It.cells)[j]? = some u) => show W.cell? ((⟨g, 0, none⟩ : Addr).add j) = some u by rw [addr_add0]; exact ((acell HBW.out).1 g j hg).trans (hcells j u hu))
    clear hcells
    have hi := HII.out.1
    have hbl0 := Below.refl (w.heap.size + 3) W
    have hle : w.heap.size + 3 ≤ W.heap.size := HLE.out
    have HW1 : Hid ((W.alloc (.cells #[] 80)).ownsRow (w.heap.size + 3) 80 8 (.slice (some ⟨W.heap.size, 0, none⟩) 0 0) 0 []) := ahid (World.ownsRow_made W #[] 0 hle (Nat.zero_le _) rfl)
    have HW2 : Hid (((W.alloc (.cells #[.int .u8 op, .int .u8 c, .int .u8 0, .int .u8 0, .bool true, .int .i32 0, .bool true, .string nm] 80)).alloc (.cells #[] 80)).ownsRow (w.heap.size + 3) 80 8 (.slice (some ⟨W.heap.size + 1, 0, none⟩) 0 0) 0 []) := by
      have h := World.ownsRow_made (base := w.heap.size + 3) (size := 8) (e := 80) (W.alloc (.cells #[.int .u8 op, .int .u8 c, .int .u8 0, .int .u8 0, .bool true, .int .i32 0, .bool true, .string nm] 80)) #[] 0 (by simp; omega) (Nat.zero_le _) rfl
      rw [show (W.alloc (.cells #[.int .u8 op, .int .u8 c, .int .u8 0, .int .u8 0, .bool true, .int .i32 0, .bool true, .string nm] 80)).heap.size = W.heap.size + 1 by simp] at h
      exact ahid h
    have HN1 : Hid (∀ (j : Nat) u, [.int .u8 op, .int .u8 c, .int .u8 0, .int .u8 0, .bool true, .int .i32 0, .bool true, .string nm][j]? = some u → ((W.alloc (.cells #[] 80)).alloc (.cells #[.int .u8 op, .int .u8 c, .int .u8 0, .int .u8 0, .bool true, .int .i32 0, .bool true, .string nm] 80)).drew.cell? ((⟨W.heap.size + 1, 0, none⟩ : Addr).add j) = some u) := by
      have h := cells_new (W.alloc (.cells #[] 80)) #[.int .u8 op, .int .u8 c, .int .u8 0, .int .u8 0, .bool true, .int .i32 0, .bool true, .string nm] 80
      rw [show (W.alloc (.cells #[] 80)).heap.size = W.heap.size + 1 by simp] at h
      exact ahid h
    have HN2 : Hid (∀ (j : Nat) u, [.int .u8 op, .int .u8 c, .int .u8 0, .int .u8 0, .bool true, .int .i32 0, .bool true, .string nm][j]? = some u → ((W.alloc (.cells #[.int .u8 op, .int .u8 c, .int .u8 0, .int .u8 0, .bool true, .int .i32 0, .bool true, .string nm] 80)).alloc (.cells #[] 80)).drew.cell? ((⟨W.heap.size, 0, none⟩ : Addr).add j) = some u) := ahid fun j u hu => Lib.cell?_alloc_some _ (cells_new W #[.int .u8 op, .int .u8 c, .int .u8 0, .int .u8 0, .bool true, .int .i32 0, .bool true, .string nm] 80 j u hu)
    go_region_held3 (fun w' => w'.cell? ⟨w.heap.size, 0, none⟩ = some (.slice (some ⟨g, 0, none⟩) L.length cl) ∧ w'.cell? ⟨w.heap.size, 1, none⟩ = some (.slice pm nm' cm) ∧ w'.cell? ⟨w.heap.size + 1 + 1, 0, none⟩ = some (.int .u8 op) ∧ w'.cell? ⟨w.heap.size + 1 + 1, 1, none⟩ = some (.int .u8 c) ∧ w'.cell? ⟨w.heap.size + 1 + 1, 2, none⟩ = some (.int .u8 0) ∧ w'.cell? ⟨w.heap.size + 1 + 1, 3, none⟩ = some (.int .u8 0) ∧ w'.cell? ⟨w.heap.size + 1 + 1, 4, none⟩ = some (.bool true) ∧ w'.cell? ⟨w.heap.size + 1 + 1, 5, none⟩ = some (.int .i32 0)) (first | (refine HKS.out _ ?_; go_grown; done) | (refine HKS2.out _ _ _ ?_; go_grown; done))
      (first
        | (refine step_append_some _ (by rfl) (.tmp 17) (.tmp 19) 30 (by rfl) (w.heap.size + 3) 80 i0 _ 8 32 Tryd.underlying30 hi HII.out.2.1 HII.out.2.2.1 HII.out.2.2.2 rfl (by decide) W.heap.size (0) 0 ([]) (by rfl) HW1.out.drew ⟨g, 0, none⟩ (L.length) cl (L.flatMap It.cells) (by rfl) HQ.out.1 (fun j u hu => Lib.cell?_alloc_some _ (HSRC.out j u hu)) (items_one L) (by unfold maxLen; omega) (by omega) (by first | exact hle | (simp; omega) | (have := hbA.size; simp; omega)) ?_; intro gA capA wA hownA hgA; rw [Nat.zero_add, List.nil_append] at hownA; have hbA : Below (w.heap.size + 3) W wA := Below.grown (by go_grown) hgA (by first | exact hle | (simp; omega)) (by intro k hk; cases hk; first | exact hle | omega); have hleA : w.heap.size + 3 ≤ wA.heap.size := Nat.le_trans hle hbA.size)
        | (refine step_append_some _ (by rfl) (.tmp 17) (.tmp 19) 30 (by rfl) (w.heap.size + 3) 80 i0 _ 8 32 Tryd.underlying30 hi HII.out.2.1 HII.out.2.2.1 HII.out.2.2.2 rfl (by decide) W.heap.size (0) 0 ([]) (by rfl) ((HW1.out.alloc _).drew) ⟨g, 0, none⟩ (L.length) cl (L.flatMap It.cells) (by rfl) HQ.out.1 (fun j u hu => Lib.cell?_alloc_some _ (Lib.cell?_alloc_some _ (HSRC.out j u hu))) (items_one L) (by unfold maxLen; omega) (by omega) (by first | exact hle | (simp; omega) | (have := hbA.size; simp; omega)) ?_; intro gA capA wA hownA hgA; rw [Nat.zero_add, List.nil_append] at hownA; have hbA : Below (w.heap.size + 3) W wA := Below.grown (by go_grown) hgA (by first | exact hle | (simp; omega)) (by intro k hk; cases hk; first | exact hle | omega); have hleA : w.heap.size + 3 ≤ wA.heap.size := Nat.le_trans hle hbA.size; have hXB : ∀ (j : Nat) u, [.int .u8 op, .int .u8 c, .int .u8 0, .int .u8 0, .bool true, .int .i32 0, .bool true, .string nm][j]? = some u → wA.cell? ((⟨W.heap.size + 1, 0, none⟩ : Addr).add j) = some u := (fun j u hu => (hgA.cell_far _ (by rw [addr_add0]; simp <;> omega) (by rw [addr_add0]; simp)).trans (HN1.out j u hu)))
        | (refine step_append_some _ (by rfl) (.tmp 17) (.tmp 19) 30 (by rfl) (w.heap.size + 3) 80 i0 _ 8 32 Tryd.underlying30 hi HII.out.2.1 HII.out.2.2.1 HII.out.2.2.2 rfl (by decide) (W.heap.size + 1) (0) 0 ([]) (by rfl) HW2.out.drew ⟨g, 0, none⟩ (L.length) cl (L.flatMap It.cells) (by rfl) HQ.out.1 (fun j u hu => Lib.cell?_alloc_some _ (Lib.cell?_alloc_some _ (HSRC.out j u hu))) (items_one L) (by unfold maxLen; omega) (by omega) (by first | exact hle | (simp; omega) | (have := hbA.size; simp; omega)) ?_; intro gA capA wA hownA hgA; rw [Nat.zero_add, List.nil_append] at hownA; have hbA : Below (w.heap.size + 3) W wA := Below.grown (by go_grown) hgA (by first | exact hle | (simp; omega)) (by intro k hk; cases hk; first | exact hle | omega); have hleA : w.heap.size + 3 ≤ wA.heap.size := Nat.le_trans hle hbA.size; have hXC : ∀ (j : Nat) u, [.int .u8 op, .int .u8 c, .int .u8 0, .int .u8 0, .bool true, .int .i32 0, .bool true, .string nm][j]? = some u → wA.cell? ((⟨W.heap.size, 0, none⟩ : Addr).add j) = some u := (fun j u hu => (hgA.cell_far _ (by rw [addr_add0]; simp <;> omega) (by rw [addr_add0]; simp)).trans (HN2.out j u hu)))
        | (have _t := hXB; refine step_append_some _ (by rfl) (.tmp 20) (.tmp 24) 30 (by rfl) (w.heap.size + 3) 80 i0 _ 8 32 Tryd.underlying30 hi HII.out.2.1 HII.out.2.2.1 HII.out.2.2.2 rfl (by decide) gA (L.length) capA (_) (by first | rfl | exact (congrArg (fun k => Value.slice (some ⟨gA, 0, none⟩) k capA) (Nat.zero_add _))) hownA ⟨W.heap.size + 1, 0, none⟩ (1) 1 ([.int .u8 op, .int .u8 c, .int .u8 0, .int .u8 0, .bool true, .int .i32 0, .bool true, .string nm]) (by rfl) (by rfl) hXB (by simp [Value.oneCell']) (by unfold maxLen; omega) (by omega) (by first | exact hle | (simp; omega) | (have := hbA.size; simp; omega)) ?_; intro g2 cap2 w2 hown2 hg2; have hb2 : Below (w.heap.size + 3) W w2 := Below.grown (by go_grown) hg2 (by first | exact hle | (simp; omega) | (have := hbA.size; simp; omega)) (by intro k hk; cases hk; first | exact hle | omega | exact (hownA.lt _ rfl).1); obtain ⟨r0, r1, rf0, rf1⟩ := HR0.out.keepB hb2 (by omega))
        | (have _t := hXC; refine step_append_some _ (by rfl) (.tmp 20) (.tmp 24) 30 (by rfl) (w.heap.size + 3) 80 i0 _ 8 32 Tryd.underlying30 hi HII.out.2.1 HII.out.2.2.1 HII.out.2.2.2 rfl (by decide) gA (L.length) capA (_) (by first | rfl | exact (congrArg (fun k => Value.slice (some ⟨gA, 0, none⟩) k capA) (Nat.zero_add _))) hownA ⟨W.heap.size, 0, none⟩ (1) 1 ([.int .u8 op, .int .u8 c, .int .u8 0, .int .u8 0, .bool true, .int .i32 0, .bool true, .string nm]) (by rfl) (by rfl) hXC (by simp [Value.oneCell']) (by unfold maxLen; omega) (by omega) (by first | exact hle | (simp; omega) | (have := hbA.size; simp; omega)) ?_; intro g2 cap2 w2 hown2 hg2; have hb2 : Below (w.heap.size + 3) W w2 := Below.grown (by go_grown) hg2 (by first | exact hle | (simp; omega) | (have := hbA.size; simp; omega)) (by intro k hk; cases hk; first | exact hle | omega | exact (hownA.lt _ rfl).1); obtain ⟨r0, r1, rf0, rf1⟩ := HR0.out.keepB hb2 (by omega))
        | (refine step_append_some _ (by rfl) (.tmp 20) (.tmp 24) 30 (by rfl) (w.heap.size + 3) 80 i0 _ 8 32 Tryd.underlying30 hi HII.out.2.1 HII.out.2.2.1 HII.out.2.2.2 rfl (by decide) gA (L.length) capA (_) (by first | rfl | exact (congrArg (fun k => Value.slice (some ⟨gA, 0, none⟩) k capA) (Nat.zero_add _))) (hownA.alloc _) ⟨wA.heap.size, 0, none⟩ (1) 1 ([.int .u8 op, .int .u8 c, .int .u8 0, .int .u8 0, .bool true, .int .i32 0, .bool true, .string nm]) (by rfl) (by rfl) (cells_new wA _ _) (by simp [Value.oneCell']) (by unfold maxLen; omega) (by omega) (by first | exact hle | (simp; omega) | (have := hbA.size; simp; omega)) ?_; intro g2 cap2 w2 hown2 hg2; have hb2 : Below (w.heap.size + 3) W w2 := Below.grown (by go_grown) hg2 (by first | exact hle | (simp; omega) | (have := hbA.size; simp; omega)) (by intro k hk; cases hk; first | exact hle | omega | exact (hownA.lt _ rfl).1); obtain ⟨r0, r1, rf0, rf1⟩ := HR0.out.keepB hb2 (by omega)))
    all_goals
      go_wp2_with fail
      have hS := (Box2.mk r0 r1 rf0 rf1).set (.slice (some ⟨g2, 0, none⟩) (L.length + 1) cap2) (.slice pm nm' cm)
      have hbel : Below w.heap.size w ((w2.setCell ⟨w.heap.size + 1, 0, none⟩ (.slice (some ⟨g2, 0, none⟩) (L.length + 1) cap2)).setCell ⟨w.heap.size + 1, 1, none⟩ (.slice pm nm' cm)) := ((HBW.out.trans (hb2.mono (by omega))).setCell (by simp) _).setCell (by simp) _
      have hit : ItemsAt ((w2.setCell ⟨w.heap.size + 1, 0, none⟩ (.slice (some ⟨g2, 0, none⟩) (L.length + 1) cap2)).setCell ⟨w.heap.size + 1, 1, none⟩ (.slice pm nm' cm)) (.slice (some ⟨g2, 0, none⟩) (L.length + 1) cap2) (L ++ [.far ⟨op, c, 0, 0, true, 0⟩ nm]) := items_fin hown2 (by simp) (by rw [List.flatMap_append]; rfl) (by omega) _ _
      have hfin := RJumpOk.yes (lv := (.slice (some ⟨g, 0, none⟩) L.length cl)) (mv := .slice pm nm' cm) hc6 hit hbel (fun kk hkk => by have := (hown2.lt kk hkk).1; omega)
      clear hit hbel r0 r1 rf0 rf1 hown2 hg2 hb2 HKS HKS2 HW1 HW2 HN1 HN2 HR0 HB0 HX0
      generalize (w2.setCell ⟨w.heap.size + 1, 0, none⟩ (.slice (some ⟨g2, 0, none⟩) (L.length + 1) cap2)).setCell ⟨w.heap.size + 1, 1, none⟩ (.slice pm nm' cm) = W9 at *
      obtain ⟨s0, s1, _, _⟩ := hS
      refine bodyPost_ret (by simp [results, Tryd.results26, go_sem, s0, s1]; try rfl) rfl ?_
      exact hfin
end Go.Proofs.YtimhpohlaagbpaaDoor
