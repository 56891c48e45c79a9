/- Several texts in one: AsmRJump, AsmRMark, AsmRParts, AsmRWords, AsmAct, AsmDoes, AsmSame, AsmHead. -/
import Derived.Test.YtfbbodaapkfbdaaDoorG21
import Derived.Test.YtfbbodaapkfbdaaDoorG22
/- The document's list (muntinref07): Jump. -/
namespace Go.Proofs.YtfbbodaapkfbdaaDoor
open Go.RowKit Go.Maps
set_option linter.unusedVariables false
set_option linter.unusedSimpArgs false
/-- What Jump of the document leaves. -/
def RJumpOk (w : World) (lv mv : Value) (L : List It) (op c : Int) (nm : ByteArray) (e : Ending) (w' : World) : Prop :=
  ∃ lv', e = .returned (.tuple #[.agg #[lv', mv], .int .i64 (if c ≤ 6 then 0 else 2)]) ∧ ItemsAt w' lv' (if c ≤ 6 then L ++ [.far ⟨op, c, 0, 0, true, 0⟩ nm] else L) ∧ Below w.heap.size w w' ∧ ∀ k, lv'.ownBlock = some k → lv.ownBlock = some k ∨ w.heap.size ≤ k
theorem RJumpOk.yes {w w' : World} {lv mv lv' : Value} {L : List It} {op c : Int} {nm : ByteArray} (h : c ≤ 6) (hi : ItemsAt w' lv' (L ++ [.far ⟨op, c, 0, 0, true, 0⟩ nm])) (hb : Below w.heap.size w w') (hk : ∀ k, lv'.ownBlock = some k → w.heap.size ≤ k) : RJumpOk w lv mv L op c nm (.returned (.tuple #[.agg #[lv', mv], .int .i64 0])) w' :=
  ⟨lv', by rw [if_pos h], by rw [if_pos h]; exact hi, hb, fun k e => .inr (hk k e)⟩
theorem row_fin {w2 : World} {B b size n : Nat} {e : TypeId} {v : Value} {cs : List Value} (ho : w2.ownsRow B e size v n cs) (hb : b < B) (x y : Value) : RowC ((w2.setCell ⟨b, 0, none⟩ x).setCell ⟨b, 1, none⟩ y) v size n cs :=
  (RowC.of_own ho).keepO (Box2.only (S := fun k => k = b) (Only.refl _ w2) rfl x y) (fun k hk e => by have := (ho.lt k hk).1; omega)
theorem items_fin {w2 : World} {B b n : Nat} {e : TypeId} {v : Value} {cs : List Value} {L : List It} (ho : w2.ownsRow B e 8 v n cs) (hn : n = L.length) (hcs : cs = L.flatMap It.cells) (hb : b < B) (x y : Value) : ItemsAt ((w2.setCell ⟨b, 0, none⟩ x).setCell ⟨b, 1, none⟩ y) v L := by
  subst hn; subst hcs; exact row_fin ho hb x y
theorem RJumpOk.no {w w' : World} {mv lv : Value} {L : List It} {op c : Int} {nm : ByteArray} (h : ¬ c ≤ 6) (hi : ItemsAt w' lv L) (hb : Below w.heap.size w w') : RJumpOk w lv mv L op c nm (.returned (.tuple #[.agg #[lv, mv], .int .i64 2])) w' :=
  ⟨lv, by rw [if_neg h], by rw [if_neg h]; exact hi, hb, fun k e => .inl e⟩
set_option maxRecDepth 100000 in
set_option maxHeartbeats 2000000 in
theorem rjump_no (w : World) (lv : Value) (pm : Option Addr) (nm' cm : Nat) (L : List It) (hq : ItemsAt w lv L) (op c : Int) (hc : ¬ c ≤ 6) (nm : ByteArray) :
    Calls Tryd.prog 41 #[.agg #[lv, .slice pm nm' cm], .int .u8 op, .int .u8 c, .string nm] w (RJumpOk w lv (.slice pm nm' cm) L op c nm) := by
  have HQ := ahid hq
  obtain ⟨pl, nl, cl, rfl⟩ := hq.shape
  have HC := ahid hc
  have hc6 : 6 < c := by omega
  clear hq hc
  have HB0 := ahid ((Box2.new w (.slice pl nl cl) (.slice pm nm' cm) 60).al (.cells #[.slice none 0 0, .slice none 0 0] 60))
  have HR0 : Hid (Box2 ((w.alloc (.cells #[.slice pl nl cl, .slice pm nm' cm] 60)).alloc (.cells #[.slice none 0 0, .slice none 0 0] 60)) (w.heap.size + 1) (.slice none 0 0) (.slice none 0 0)) := by
    have := Box2.new (w.alloc (.cells #[.slice pl nl cl, .slice pm nm' cm] 60)) (.slice none 0 0) (.slice none 0 0) 60
    rw [show (w.alloc (.cells #[.slice pl nl cl, .slice pm nm' cm] 60)).heap.size = w.heap.size + 1 by simp] at this
    exact ahid this
  go_enter Tryd.func41, Tryd.ntmps41
  go_wp2_with fail
  have hS := Box2.new (w.alloc (.cells #[.slice pl nl cl, .slice pm nm' cm] 60)) (.slice pl nl cl) (.slice pm nm' cm) 60
  rw [show (w.alloc (.cells #[.slice pl nl cl, .slice pm nm' cm] 60)).heap.size = w.heap.size + 1 by simp] at hS
  have hbel : Below w.heap.size w ((w.alloc (.cells #[.slice pl nl cl, .slice pm nm' cm] 60)).alloc (.cells #[.slice pl nl cl, .slice pm nm' cm] 60)) := ((Below.refl _ _).alloc (Nat.le_refl _) _).alloc (by simp) _
  have hfin := RJumpOk.no (op := op) (nm := nm) (mv := .slice pm nm' cm) (show ¬ c ≤ 6 by omega) (HQ.out.keep hbel) hbel
  clear hbel HB0 HR0
  generalize (w.alloc (.cells #[.slice pl nl cl, .slice pm nm' cm] 60)).alloc (.cells #[.slice pl nl cl, .slice pm nm' cm] 60) = W9 at *
  obtain ⟨s0, s1, _, _⟩ := hS
  refine bodyPost_ret (by simp [results, Tryd.results41, go_sem, s0, s1]; try rfl) rfl ?_
  exact hfin
theorem cells6 (w : World) (x : Ix) : InsAt (w.alloc (.cells #[.int .u8 x.op, .int .u8 x.rd, .int .u8 x.rs1, .int .u8 x.rs2, .bool x.is, .int .i32 x.imm] 50)) w.heap.size 0 x ∨ ¬ x.bd := by
  by_cases hb : x.bd
  · refine .inl (InsAt.of_cells hb fun j u hu => ?_)
    rw [Nat.zero_add]
    simp only [World.cell?, heap_alloc_new w _]
    simpa [Ix.cells] using hu
  · exact .inr hb
set_option maxRecDepth 100000 in
set_option maxHeartbeats 2000000 in
theorem rjump_yes (w : World) (lv : Value) (pm : Option Addr) (nm' cm : Nat) (L : List It) (hq : ItemsAt w lv L) (op c : Int) (ho : 0 ≤ op ∧ op < 256) (hc0 : 0 ≤ c) (hc : c ≤ 6) (nm : ByteArray) (hL : L.length < 4294967296) :
    Calls Tryd.prog 41 #[.agg #[lv, .slice pm nm' cm], .int .u8 op, .int .u8 c, .string nm] w (RJumpOk w lv (.slice pm nm' cm) L op c nm) := by
  have HQ := ahid hq
  have hq2 := hq.2
  obtain ⟨pl, nl, cl, rfl⟩ := hq.shape
  have HC := ahid (And.intro hc0 (And.intro hc ho))
  have hc6 : ¬ 6 < c := by omega
  clear hq ho hc0
  obtain ⟨i0, hi, hz0, hz1, hz2⟩ := info_parts info8i
  have HII := ahid (And.intro hi (And.intro hz0 (And.intro hz1 hz2)))
  clear hi hz0 hz1 hz2
  have HB0 := ((Box2.new w (.slice pl nl cl) (.slice pm nm' cm) 60).al (.cells #[.slice none 0 0, .slice none 0 0] 60)).al (.cells #[.int .u8 op, .int .u8 c, .int .u8 0, .int .u8 0, .bool true, .int .i32 0] 50)
  have HR0 : Box2 (((w.alloc (.cells #[.slice pl nl cl, .slice pm nm' cm] 60)).alloc (.cells #[.slice none 0 0, .slice none 0 0] 60)).alloc (.cells #[.int .u8 op, .int .u8 c, .int .u8 0, .int .u8 0, .bool true, .int .i32 0] 50)) (w.heap.size + 1) (.slice none 0 0) (.slice none 0 0) := by
    have := Box2.new (w.alloc (.cells #[.slice pl nl cl, .slice pm nm' cm] 60)) (.slice none 0 0) (.slice none 0 0) 60
    rw [show (w.alloc (.cells #[.slice pl nl cl, .slice pm nm' cm] 60)).heap.size = w.heap.size + 1 by simp] at this
    exact this.al _
  have HX0 : InsAt (((w.alloc (.cells #[.slice pl nl cl, .slice pm nm' cm] 60)).alloc (.cells #[.slice none 0 0, .slice none 0 0] 60)).alloc (.cells #[.int .u8 op, .int .u8 c, .int .u8 0, .int .u8 0, .bool true, .int .i32 0] 50)) (w.heap.size + 2) 0 ⟨op, c, 0, 0, true, 0⟩ := by
    have := cells6 ((w.alloc (.cells #[.slice pl nl cl, .slice pm nm' cm] 60)).alloc (.cells #[.slice none 0 0, .slice none 0 0] 60)) ⟨op, c, 0, 0, true, 0⟩
    rw [show ((w.alloc (.cells #[.slice pl nl cl, .slice pm nm' cm] 60)).alloc (.cells #[.slice none 0 0, .slice none 0 0] 60)).heap.size = w.heap.size + 2 by simp] at this
    rcases this with h | h
    · exact h
    · exact absurd (by have := HC.out; unfold Ix.bd; simp only; omega) h
  have HBW : Below w.heap.size w (((w.alloc (.cells #[.slice pl nl cl, .slice pm nm' cm] 60)).alloc (.cells #[.slice none 0 0, .slice none 0 0] 60)).alloc (.cells #[.int .u8 op, .int .u8 c, .int .u8 0, .int .u8 0, .bool true, .int .i32 0] 50)) := (((Below.refl _ _).alloc (Nat.le_refl _) _).alloc (by simp) _).alloc (by simp; omega) _
  have HSZ : (((w.alloc (.cells #[.slice pl nl cl, .slice pm nm' cm] 60)).alloc (.cells #[.slice none 0 0, .slice none 0 0] 60)).alloc (.cells #[.int .u8 op, .int .u8 c, .int .u8 0, .int .u8 0, .bool true, .int .i32 0] 50)).heap.size = w.heap.size + 3 := by simp
  replace HB0 := ahid HB0
  replace HR0 := ahid HR0
  replace HX0 := ahid HX0
  replace HBW := ahid HBW
  replace HSZ := ahid HSZ
  go_enter Tryd.func41, Tryd.ntmps41
  go_wp2_with fail
  generalize ((w.alloc (.cells #[.slice pl nl cl, .slice pm nm' cm] 60)).alloc (.cells #[.slice none 0 0, .slice none 0 0] 60)).alloc (.cells #[.int .u8 op, .int .u8 c, .int .u8 0, .int .u8 0, .bool true, .int .i32 0] 50) = W at *
  rcases hq2 with ⟨hv, hl0⟩ | ⟨g, cap, hv, hcap1, hcap2, hg, hcells⟩
  · cases hv
    have HKS := ahid (show ∀ w', Below (w.heap.size + 3) W w' → w'.cell? ⟨w.heap.size, 0, none⟩ = some (.slice none 0 0) ∧ w'.cell? ⟨w.heap.size, 1, none⟩ = some (.slice pm nm' cm) ∧ w'.cell? ⟨w.heap.size + 1 + 1, 0, none⟩ = some (.int .u8 op) ∧ w'.cell? ⟨w.heap.size + 1 + 1, 1, none⟩ = some (.int .u8 c) ∧ w'.cell? ⟨w.heap.size + 1 + 1, 2, none⟩ = some (.int .u8 0) ∧ w'.cell? ⟨w.heap.size + 1 + 1, 3, none⟩ = some (.int .u8 0) ∧ w'.cell? ⟨w.heap.size + 1 + 1, 4, none⟩ = some (.bool true) ∧ w'.cell? ⟨w.heap.size + 1 + 1, 5, none⟩ = some (.int .i32 0) from fun w' hb => by
      have h1 := HB0.out.keepB hb (by omega)
      have k : ∀ (i : Nat) (u : Value), W.cell? ⟨w.heap.size + 2, i, none⟩ = some u → w'.cell? ⟨w.heap.size + 1 + 1, i, none⟩ = some u := fun i u h => (hb.cell (p := ⟨w.heap.size + 2, i, none⟩) (by show w.heap.size + 2 < w.heap.size + 3; omega)).trans h
      exact ⟨h1.c0, h1.c1, k 0 _ HX0.out.c0, k 1 _ HX0.out.c1, k 2 _ HX0.out.c2, k 3 _ HX0.out.c3, k 4 _ HX0.out.c4, k 5 _ HX0.out.c5⟩)
    have HKS2 := ahid (show ∀ w' u v, Below (w.heap.size + 3) W w' → (fun w' => w'.cell? ⟨w.heap.size, 0, none⟩ = some (.slice none 0 0) ∧ w'.cell? ⟨w.heap.size, 1, none⟩ = some (.slice pm nm' cm) ∧ w'.cell? ⟨w.heap.size + 1 + 1, 0, none⟩ = some (.int .u8 op) ∧ w'.cell? ⟨w.heap.size + 1 + 1, 1, none⟩ = some (.int .u8 c) ∧ w'.cell? ⟨w.heap.size + 1 + 1, 2, none⟩ = some (.int .u8 0) ∧ w'.cell? ⟨w.heap.size + 1 + 1, 3, none⟩ = some (.int .u8 0) ∧ w'.cell? ⟨w.heap.size + 1 + 1, 4, none⟩ = some (.bool true) ∧ w'.cell? ⟨w.heap.size + 1 + 1, 5, none⟩ = some (.int .i32 0)) ((w'.setCell ⟨w.heap.size + 1, 0, none⟩ u).setCell ⟨w.heap.size + 1, 1, none⟩ v) from fun w' u v hb => by
      have h1 := HKS.out w' hb
      have k : ∀ (b i : Nat) (x : Value), b ≠ w.heap.size + 1 → w'.cell? ⟨b, i, none⟩ = some x → ((w'.setCell ⟨w.heap.size + 1, 0, none⟩ u).setCell ⟨w.heap.size + 1, 1, none⟩ v).cell? ⟨b, i, none⟩ = some x := fun b i x hne h => ((World.cell?_setCell_far _ _ _ _ (fun e => hne e.symm)).trans (World.cell?_setCell_far _ _ _ _ (fun e => hne e.symm))).trans h
      exact ⟨k _ _ _ (by omega) h1.1, k _ _ _ (by omega) h1.2.1, k _ _ _ (by omega) h1.2.2.1, k _ _ _ (by omega) h1.2.2.2.1, k _ _ _ (by omega) h1.2.2.2.2.1, k _ _ _ (by omega) h1.2.2.2.2.2.1, k _ _ _ (by omega) h1.2.2.2.2.2.2.1, k _ _ _ (by omega) h1.2.2.2.2.2.2.2⟩)
    have HLE := ahid (show w.heap.size + 3 ≤ W.heap.size by have := HSZ.out; omega)
    have hi := HII.out.1
    have hbl0 := Below.refl (w.heap.size + 3) W
    have hle : w.heap.size + 3 ≤ W.heap.size := HLE.out
    have HW1 : Hid ((W.alloc (.cells #[] 115)).ownsRow (w.heap.size + 3) 115 8 (.slice (some ⟨W.heap.size, 0, none⟩) 0 0) 0 []) := ahid (World.ownsRow_made W #[] 0 hle (Nat.zero_le _) rfl)
    have HW2 : Hid (((W.alloc (.cells #[.int .u8 op, .int .u8 c, .int .u8 0, .int .u8 0, .bool true, .int .i32 0, .bool true, .string nm] 115)).alloc (.cells #[] 115)).ownsRow (w.heap.size + 3) 115 8 (.slice (some ⟨W.heap.size + 1, 0, none⟩) 0 0) 0 []) := by
      have h := World.ownsRow_made (base := w.heap.size + 3) (size := 8) (e := 115) (W.alloc (.cells #[.int .u8 op, .int .u8 c, .int .u8 0, .int .u8 0, .bool true, .int .i32 0, .bool true, .string nm] 115)) #[] 0 (by simp; omega) (Nat.zero_le _) rfl
      rw [show (W.alloc (.cells #[.int .u8 op, .int .u8 c, .int .u8 0, .int .u8 0, .bool true, .int .i32 0, .bool true, .string nm] 115)).heap.size = W.heap.size + 1 by simp] at h
      exact ahid h
    have HN1 : Hid (∀ (j : Nat) u, [.int .u8 op, .int .u8 c, .int .u8 0, .int .u8 0, .bool true, .int .i32 0, .bool true, .string nm][j]? = some u → ((W.alloc (.cells #[] 115)).alloc (.cells #[.int .u8 op, .int .u8 c, .int .u8 0, .int .u8 0, .bool true, .int .i32 0, .bool true, .string nm] 115)).drew.cell? ((⟨W.heap.size + 1, 0, none⟩ : Addr).add j) = some u) := by
      have h := cells_new (W.alloc (.cells #[] 115)) #[.int .u8 op, .int .u8 c, .int .u8 0, .int .u8 0, .bool true, .int .i32 0, .bool true, .string nm] 115
      rw [show (W.alloc (.cells #[] 115)).heap.size = W.heap.size + 1 by simp] at h
      exact ahid h
    have HN2 : Hid (∀ (j : Nat) u, [.int .u8 op, .int .u8 c, .int .u8 0, .int .u8 0, .bool true, .int .i32 0, .bool true, .string nm][j]? = some u → ((W.alloc (.cells #[.int .u8 op, .int .u8 c, .int .u8 0, .int .u8 0, .bool true, .int .i32 0, .bool true, .string nm] 115)).alloc (.cells #[] 115)).drew.cell? ((⟨W.heap.size, 0, none⟩ : Addr).add j) = some u) := ahid fun j u hu => Lib.cell?_alloc_some _ (cells_new W #[.int .u8 op, .int .u8 c, .int .u8 0, .int .u8 0, .bool true, .int .i32 0, .bool true, .string nm] 115 j u hu)
    go_region_held3 (fun w' => w'.cell? ⟨w.heap.size, 0, none⟩ = some (.slice none 0 0) ∧ w'.cell? ⟨w.heap.size, 1, none⟩ = some (.slice pm nm' cm) ∧ w'.cell? ⟨w.heap.size + 1 + 1, 0, none⟩ = some (.int .u8 op) ∧ w'.cell? ⟨w.heap.size + 1 + 1, 1, none⟩ = some (.int .u8 c) ∧ w'.cell? ⟨w.heap.size + 1 + 1, 2, none⟩ = some (.int .u8 0) ∧ w'.cell? ⟨w.heap.size + 1 + 1, 3, none⟩ = some (.int .u8 0) ∧ w'.cell? ⟨w.heap.size + 1 + 1, 4, none⟩ = some (.bool true) ∧ w'.cell? ⟨w.heap.size + 1 + 1, 5, none⟩ = some (.int .i32 0)) (first | (refine HKS.out _ ?_; go_grown; done) | (refine HKS2.out _ _ _ ?_; go_grown; done))
      (first
        | (refine step_append_none _ (by rfl) (.tmp 17) (.tmp 19) 57 (by rfl) (w.heap.size + 3) 115 i0 8 Tryd.underlying57 hi (.slice (some ⟨W.heap.size, 0, none⟩) 0 0) 0 [] (by rfl) HW1.out.drew (by rfl) ?_)
        | (refine step_append_none _ (by rfl) (.tmp 17) (.tmp 19) 57 (by rfl) (w.heap.size + 3) 115 i0 8 Tryd.underlying57 hi (.slice (some ⟨W.heap.size, 0, none⟩) 0 0) 0 [] (by rfl) ((HW1.out.alloc _).drew) (by rfl) ?_)
        | (refine step_append_none _ (by rfl) (.tmp 17) (.tmp 19) 57 (by rfl) (w.heap.size + 3) 115 i0 8 Tryd.underlying57 hi (.slice (some ⟨W.heap.size + 1, 0, none⟩) 0 0) 0 [] (by rfl) HW2.out.drew (by rfl) ?_)
        | (refine step_append_some _ (by rfl) (.tmp 20) (.tmp 24) 57 (by rfl) (w.heap.size + 3) 115 i0 _ 8 32 Tryd.underlying57 hi HII.out.2.1 HII.out.2.2.1 HII.out.2.2.2 rfl (by decide) W.heap.size (0) 0 ([]) (by rfl) ((HW1.out.alloc _).drew) ⟨W.heap.size + 1, 0, none⟩ (1) 1 ([.int .u8 op, .int .u8 c, .int .u8 0, .int .u8 0, .bool true, .int .i32 0, .bool true, .string nm]) (by rfl) (by rfl) HN1.out (by simp [Value.oneCell']) (by unfold maxLen; omega) (by omega) (by first | exact hle | (simp; omega) | (have := hbA.size; simp; omega)) ?_; intro g2 cap2 w2 hown2 hg2; have hb2 : Below (w.heap.size + 3) W w2 := Below.grown (by go_grown) hg2 (by first | exact hle | (simp; omega) | (have := hbA.size; simp; omega)) (by intro k hk; cases hk; first | exact hle | omega | exact (hownA.lt _ rfl).1); obtain ⟨r0, r1, rf0, rf1⟩ := HR0.out.keepB hb2 (by omega))
        | (refine step_append_some _ (by rfl) (.tmp 20) (.tmp 24) 57 (by rfl) (w.heap.size + 3) 115 i0 _ 8 32 Tryd.underlying57 hi HII.out.2.1 HII.out.2.2.1 HII.out.2.2.2 rfl (by decide) (W.heap.size + 1) (0) 0 ([]) (by rfl) HW2.out.drew ⟨W.heap.size, 0, none⟩ (1) 1 ([.int .u8 op, .int .u8 c, .int .u8 0, .int .u8 0, .bool true, .int .i32 0, .bool true, .string nm]) (by rfl) (by rfl) HN2.out (by simp [Value.oneCell']) (by unfold maxLen; omega) (by omega) (by first | exact hle | (simp; omega) | (have := hbA.size; simp; omega)) ?_; intro g2 cap2 w2 hown2 hg2; have hb2 : Below (w.heap.size + 3) W w2 := Below.grown (by go_grown) hg2 (by first | exact hle | (simp; omega) | (have := hbA.size; simp; omega)) (by intro k hk; cases hk; first | exact hle | omega | exact (hownA.lt _ rfl).1); obtain ⟨r0, r1, rf0, rf1⟩ := HR0.out.keepB hb2 (by omega)))
    all_goals
      go_wp2_with fail
      have hS := (Box2.mk r0 r1 rf0 rf1).set (.slice (some ⟨g2, 0, none⟩) 1 cap2) (.slice pm nm' cm)
      have hbel : Below w.heap.size w ((w2.setCell ⟨w.heap.size + 1, 0, none⟩ (.slice (some ⟨g2, 0, none⟩) 1 cap2)).setCell ⟨w.heap.size + 1, 1, none⟩ (.slice pm nm' cm)) := ((HBW.out.trans (hb2.mono (by omega))).setCell (by simp) _).setCell (by simp) _
      have hit : ItemsAt ((w2.setCell ⟨w.heap.size + 1, 0, none⟩ (.slice (some ⟨g2, 0, none⟩) 1 cap2)).setCell ⟨w.heap.size + 1, 1, none⟩ (.slice pm nm' cm)) (.slice (some ⟨g2, 0, none⟩) 1 cap2) (L ++ [.far ⟨op, c, 0, 0, true, 0⟩ nm]) := items_fin hown2 (by rw [List.length_append, hl0]; rfl) (by rw [List.eq_nil_of_length_eq_zero hl0]; rfl) (by omega) _ _
      have hfin := RJumpOk.yes (lv := (.slice none 0 0)) (mv := .slice pm nm' cm) hc6 hit hbel (fun kk hkk => by have := (hown2.lt kk hkk).1; omega)
      clear hit hbel r0 r1 rf0 rf1 hown2 hg2 hb2 HKS HKS2 HW1 HW2 HN1 HN2 HR0 HB0 HX0
      generalize (w2.setCell ⟨w.heap.size + 1, 0, none⟩ (.slice (some ⟨g2, 0, none⟩) 1 cap2)).setCell ⟨w.heap.size + 1, 1, none⟩ (.slice pm nm' cm) = W9 at *
      obtain ⟨s0, s1, _, _⟩ := hS
      refine bodyPost_ret (by simp [results, Tryd.results41, go_sem, s0, s1]; try rfl) rfl ?_
      exact hfin
  · cases hv
    have HKS := ahid (show ∀ w', Below (w.heap.size + 3) W w' → w'.cell? ⟨w.heap.size, 0, none⟩ = some (.slice (some ⟨g, 0, none⟩) L.length cl) ∧ w'.cell? ⟨w.heap.size, 1, none⟩ = some (.slice pm nm' cm) ∧ w'.cell? ⟨w.heap.size + 1 + 1, 0, none⟩ = some (.int .u8 op) ∧ w'.cell? ⟨w.heap.size + 1 + 1, 1, none⟩ = some (.int .u8 c) ∧ w'.cell? ⟨w.heap.size + 1 + 1, 2, none⟩ = some (.int .u8 0) ∧ w'.cell? ⟨w.heap.size + 1 + 1, 3, none⟩ = some (.int .u8 0) ∧ w'.cell? ⟨w.heap.size + 1 + 1, 4, none⟩ = some (.bool true) ∧ w'.cell? ⟨w.heap.size + 1 + 1, 5, none⟩ = some (.int .i32 0) from fun w' hb => by
      have h1 := HB0.out.keepB hb (by omega)
      have k : ∀ (i : Nat) (u : Value), W.cell? ⟨w.heap.size + 2, i, none⟩ = some u → w'.cell? ⟨w.heap.size + 1 + 1, i, none⟩ = some u := fun i u h => (hb.cell (p := ⟨w.heap.size + 2, i, none⟩) (by show w.heap.size + 2 < w.heap.size + 3; omega)).trans h
      exact ⟨h1.c0, h1.c1, k 0 _ HX0.out.c0, k 1 _ HX0.out.c1, k 2 _ HX0.out.c2, k 3 _ HX0.out.c3, k 4 _ HX0.out.c4, k 5 _ HX0.out.c5⟩)
    have HKS2 := ahid (show ∀ w' u v, Below (w.heap.size + 3) W w' → (fun w' => w'.cell? ⟨w.heap.size, 0, none⟩ = some (.slice (some ⟨g, 0, none⟩) L.length cl) ∧ w'.cell? ⟨w.heap.size, 1, none⟩ = some (.slice pm nm' cm) ∧ w'.cell? ⟨w.heap.size + 1 + 1, 0, none⟩ = some (.int .u8 op) ∧ w'.cell? ⟨w.heap.size + 1 + 1, 1, none⟩ = some (.int .u8 c) ∧ w'.cell? ⟨w.heap.size + 1 + 1, 2, none⟩ = some (.int .u8 0) ∧ w'.cell? ⟨w.heap.size + 1 + 1, 3, none⟩ = some (.int .u8 0) ∧ w'.cell? ⟨w.heap.size + 1 + 1, 4, none⟩ = some (.bool true) ∧ w'.cell? ⟨w.heap.size + 1 + 1, 5, none⟩ = some (.int .i32 0)) ((w'.setCell ⟨w.heap.size + 1, 0, none⟩ u).setCell ⟨w.heap.size + 1, 1, none⟩ v) from fun w' u v hb => by
      have h1 := HKS.out w' hb
      have k : ∀ (b i : Nat) (x : Value), b ≠ w.heap.size + 1 → w'.cell? ⟨b, i, none⟩ = some x → ((w'.setCell ⟨w.heap.size + 1, 0, none⟩ u).setCell ⟨w.heap.size + 1, 1, none⟩ v).cell? ⟨b, i, none⟩ = some x := fun b i x hne h => ((World.cell?_setCell_far _ _ _ _ (fun e => hne e.symm)).trans (World.cell?_setCell_far _ _ _ _ (fun e => hne e.symm))).trans h
      exact ⟨k _ _ _ (by omega) h1.1, k _ _ _ (by omega) h1.2.1, k _ _ _ (by omega) h1.2.2.1, k _ _ _ (by omega) h1.2.2.2.1, k _ _ _ (by omega) h1.2.2.2.2.1, k _ _ _ (by omega) h1.2.2.2.2.2.1, k _ _ _ (by omega) h1.2.2.2.2.2.2.1, k _ _ _ (by omega) h1.2.2.2.2.2.2.2⟩)
    have HLE := ahid (show w.heap.size + 3 ≤ W.heap.size by have := HSZ.out; omega)
    have HSRC := ahid (fun (j : Nat) (u : Value) (hu : (L.flatMap It.cells)[j]? = some u) => show W.cell? ((⟨g, 0, none⟩ : Addr).add j) = some u by rw [addr_add0]; exact ((acell HBW.out).1 g j hg).trans (hcells j u hu))
    clear hcells
    have hi := HII.out.1
    have hbl0 := Below.refl (w.heap.size + 3) W
    have hle : w.heap.size + 3 ≤ W.heap.size := HLE.out
    have HW1 : Hid ((W.alloc (.cells #[] 115)).ownsRow (w.heap.size + 3) 115 8 (.slice (some ⟨W.heap.size, 0, none⟩) 0 0) 0 []) := ahid (World.ownsRow_made W #[] 0 hle (Nat.zero_le _) rfl)
    have HW2 : Hid (((W.alloc (.cells #[.int .u8 op, .int .u8 c, .int .u8 0, .int .u8 0, .bool true, .int .i32 0, .bool true, .string nm] 115)).alloc (.cells #[] 115)).ownsRow (w.heap.size + 3) 115 8 (.slice (some ⟨W.heap.size + 1, 0, none⟩) 0 0) 0 []) := by
      have h := World.ownsRow_made (base := w.heap.size + 3) (size := 8) (e := 115) (W.alloc (.cells #[.int .u8 op, .int .u8 c, .int .u8 0, .int .u8 0, .bool true, .int .i32 0, .bool true, .string nm] 115)) #[] 0 (by simp; omega) (Nat.zero_le _) rfl
      rw [show (W.alloc (.cells #[.int .u8 op, .int .u8 c, .int .u8 0, .int .u8 0, .bool true, .int .i32 0, .bool true, .string nm] 115)).heap.size = W.heap.size + 1 by simp] at h
      exact ahid h
    have HN1 : Hid (∀ (j : Nat) u, [.int .u8 op, .int .u8 c, .int .u8 0, .int .u8 0, .bool true, .int .i32 0, .bool true, .string nm][j]? = some u → ((W.alloc (.cells #[] 115)).alloc (.cells #[.int .u8 op, .int .u8 c, .int .u8 0, .int .u8 0, .bool true, .int .i32 0, .bool true, .string nm] 115)).drew.cell? ((⟨W.heap.size + 1, 0, none⟩ : Addr).add j) = some u) := by
      have h := cells_new (W.alloc (.cells #[] 115)) #[.int .u8 op, .int .u8 c, .int .u8 0, .int .u8 0, .bool true, .int .i32 0, .bool true, .string nm] 115
      rw [show (W.alloc (.cells #[] 115)).heap.size = W.heap.size + 1 by simp] at h
      exact ahid h
    have HN2 : Hid (∀ (j : Nat) u, [.int .u8 op, .int .u8 c, .int .u8 0, .int .u8 0, .bool true, .int .i32 0, .bool true, .string nm][j]? = some u → ((W.alloc (.cells #[.int .u8 op, .int .u8 c, .int .u8 0, .int .u8 0, .bool true, .int .i32 0, .bool true, .string nm] 115)).alloc (.cells #[] 115)).drew.cell? ((⟨W.heap.size, 0, none⟩ : Addr).add j) = some u) := ahid fun j u hu => Lib.cell?_alloc_some _ (cells_new W #[.int .u8 op, .int .u8 c, .int .u8 0, .int .u8 0, .bool true, .int .i32 0, .bool true, .string nm] 115 j u hu)
    go_region_held3 (fun w' => w'.cell? ⟨w.heap.size, 0, none⟩ = some (.slice (some ⟨g, 0, none⟩) L.length cl) ∧ w'.cell? ⟨w.heap.size, 1, none⟩ = some (.slice pm nm' cm) ∧ w'.cell? ⟨w.heap.size + 1 + 1, 0, none⟩ = some (.int .u8 op) ∧ w'.cell? ⟨w.heap.size + 1 + 1, 1, none⟩ = some (.int .u8 c) ∧ w'.cell? ⟨w.heap.size + 1 + 1, 2, none⟩ = some (.int .u8 0) ∧ w'.cell? ⟨w.heap.size + 1 + 1, 3, none⟩ = some (.int .u8 0) ∧ w'.cell? ⟨w.heap.size + 1 + 1, 4, none⟩ = some (.bool true) ∧ w'.cell? ⟨w.heap.size + 1 + 1, 5, none⟩ = some (.int .i32 0)) (first | (refine HKS.out _ ?_; go_grown; done) | (refine HKS2.out _ _ _ ?_; go_grown; done))
      (first
        | (refine step_append_some _ (by rfl) (.tmp 17) (.tmp 19) 57 (by rfl) (w.heap.size + 3) 115 i0 _ 8 32 Tryd.underlying57 hi HII.out.2.1 HII.out.2.2.1 HII.out.2.2.2 rfl (by decide) W.heap.size (0) 0 ([]) (by rfl) HW1.out.drew ⟨g, 0, none⟩ (L.length) cl (L.flatMap It.cells) (by rfl) HQ.out.1 (fun j u hu => Lib.cell?_alloc_some _ (HSRC.out j u hu)) (items_one L) (by unfold maxLen; omega) (by omega) (by first | exact hle | (simp; omega) | (have := hbA.size; simp; omega)) ?_; intro gA capA wA hownA hgA; rw [Nat.zero_add, List.nil_append] at hownA; have hbA : Below (w.heap.size + 3) W wA := Below.grown (by go_grown) hgA (by first | exact hle | (simp; omega)) (by intro k hk; cases hk; first | exact hle | omega); have hleA : w.heap.size + 3 ≤ wA.heap.size := Nat.le_trans hle hbA.size)
        | (refine step_append_some _ (by rfl) (.tmp 17) (.tmp 19) 57 (by rfl) (w.heap.size + 3) 115 i0 _ 8 32 Tryd.underlying57 hi HII.out.2.1 HII.out.2.2.1 HII.out.2.2.2 rfl (by decide) W.heap.size (0) 0 ([]) (by rfl) ((HW1.out.alloc _).drew) ⟨g, 0, none⟩ (L.length) cl (L.flatMap It.cells) (by rfl) HQ.out.1 (fun j u hu => Lib.cell?_alloc_some _ (Lib.cell?_alloc_some _ (HSRC.out j u hu))) (items_one L) (by unfold maxLen; omega) (by omega) (by first | exact hle | (simp; omega) | (have := hbA.size; simp; omega)) ?_; intro gA capA wA hownA hgA; rw [Nat.zero_add, List.nil_append] at hownA; have hbA : Below (w.heap.size + 3) W wA := Below.grown (by go_grown) hgA (by first | exact hle | (simp; omega)) (by intro k hk; cases hk; first | exact hle | omega); have hleA : w.heap.size + 3 ≤ wA.heap.size := Nat.le_trans hle hbA.size; have hXB : ∀ (j : Nat) u, [.int .u8 op, .int .u8 c, .int .u8 0, .int .u8 0, .bool true, .int .i32 0, .bool true, .string nm][j]? = some u → wA.cell? ((⟨W.heap.size + 1, 0, none⟩ : Addr).add j) = some u := (fun j u hu => (hgA.cell_far _ (by rw [addr_add0]; simp <;> omega) (by rw [addr_add0]; simp)).trans (HN1.out j u hu)))
        | (refine step_append_some _ (by rfl) (.tmp 17) (.tmp 19) 57 (by rfl) (w.heap.size + 3) 115 i0 _ 8 32 Tryd.underlying57 hi HII.out.2.1 HII.out.2.2.1 HII.out.2.2.2 rfl (by decide) (W.heap.size + 1) (0) 0 ([]) (by rfl) HW2.out.drew ⟨g, 0, none⟩ (L.length) cl (L.flatMap It.cells) (by rfl) HQ.out.1 (fun j u hu => Lib.cell?_alloc_some _ (Lib.cell?_alloc_some _ (HSRC.out j u hu))) (items_one L) (by unfold maxLen; omega) (by omega) (by first | exact hle | (simp; omega) | (have := hbA.size; simp; omega)) ?_; intro gA capA wA hownA hgA; rw [Nat.zero_add, List.nil_append] at hownA; have hbA : Below (w.heap.size + 3) W wA := Below.grown (by go_grown) hgA (by first | exact hle | (simp; omega)) (by intro k hk; cases hk; first | exact hle | omega); have hleA : w.heap.size + 3 ≤ wA.heap.size := Nat.le_trans hle hbA.size; have hXC : ∀ (j : Nat) u, [.int .u8 op, .int .u8 c, .int .u8 0, .int .u8 0, .bool true, .int .i32 0, .bool true, .string nm][j]? = some u → wA.cell? ((⟨W.heap.size, 0, none⟩ : Addr).add j) = some u := (fun j u hu => (hgA.cell_far _ (by rw [addr_add0]; simp <;> omega) (by rw [addr_add0]; simp)).trans (HN2.out j u hu)))
        | (have _t := hXB; refine step_append_some _ (by rfl) (.tmp 20) (.tmp 24) 57 (by rfl) (w.heap.size + 3) 115 i0 _ 8 32 Tryd.underlying57 hi HII.out.2.1 HII.out.2.2.1 HII.out.2.2.2 rfl (by decide) gA (L.length) capA (_) (by first | rfl | exact (congrArg (fun k => Value.slice (some ⟨gA, 0, none⟩) k capA) (Nat.zero_add _))) hownA ⟨W.heap.size + 1, 0, none⟩ (1) 1 ([.int .u8 op, .int .u8 c, .int .u8 0, .int .u8 0, .bool true, .int .i32 0, .bool true, .string nm]) (by rfl) (by rfl) hXB (by simp [Value.oneCell']) (by unfold maxLen; omega) (by omega) (by first | exact hle | (simp; omega) | (have := hbA.size; simp; omega)) ?_; intro g2 cap2 w2 hown2 hg2; have hb2 : Below (w.heap.size + 3) W w2 := Below.grown (by go_grown) hg2 (by first | exact hle | (simp; omega) | (have := hbA.size; simp; omega)) (by intro k hk; cases hk; first | exact hle | omega | exact (hownA.lt _ rfl).1); obtain ⟨r0, r1, rf0, rf1⟩ := HR0.out.keepB hb2 (by omega))
        | (have _t := hXC; refine step_append_some _ (by rfl) (.tmp 20) (.tmp 24) 57 (by rfl) (w.heap.size + 3) 115 i0 _ 8 32 Tryd.underlying57 hi HII.out.2.1 HII.out.2.2.1 HII.out.2.2.2 rfl (by decide) gA (L.length) capA (_) (by first | rfl | exact (congrArg (fun k => Value.slice (some ⟨gA, 0, none⟩) k capA) (Nat.zero_add _))) hownA ⟨W.heap.size, 0, none⟩ (1) 1 ([.int .u8 op, .int .u8 c, .int .u8 0, .int .u8 0, .bool true, .int .i32 0, .bool true, .string nm]) (by rfl) (by rfl) hXC (by simp [Value.oneCell']) (by unfold maxLen; omega) (by omega) (by first | exact hle | (simp; omega) | (have := hbA.size; simp; omega)) ?_; intro g2 cap2 w2 hown2 hg2; have hb2 : Below (w.heap.size + 3) W w2 := Below.grown (by go_grown) hg2 (by first | exact hle | (simp; omega) | (have := hbA.size; simp; omega)) (by intro k hk; cases hk; first | exact hle | omega | exact (hownA.lt _ rfl).1); obtain ⟨r0, r1, rf0, rf1⟩ := HR0.out.keepB hb2 (by omega))
        | (refine step_append_some _ (by rfl) (.tmp 20) (.tmp 24) 57 (by rfl) (w.heap.size + 3) 115 i0 _ 8 32 Tryd.underlying57 hi HII.out.2.1 HII.out.2.2.1 HII.out.2.2.2 rfl (by decide) gA (L.length) capA (_) (by first | rfl | exact (congrArg (fun k => Value.slice (some ⟨gA, 0, none⟩) k capA) (Nat.zero_add _))) (hownA.alloc _) ⟨wA.heap.size, 0, none⟩ (1) 1 ([.int .u8 op, .int .u8 c, .int .u8 0, .int .u8 0, .bool true, .int .i32 0, .bool true, .string nm]) (by rfl) (by rfl) (cells_new wA _ _) (by simp [Value.oneCell']) (by unfold maxLen; omega) (by omega) (by first | exact hle | (simp; omega) | (have := hbA.size; simp; omega)) ?_; intro g2 cap2 w2 hown2 hg2; have hb2 : Below (w.heap.size + 3) W w2 := Below.grown (by go_grown) hg2 (by first | exact hle | (simp; omega) | (have := hbA.size; simp; omega)) (by intro k hk; cases hk; first | exact hle | omega | exact (hownA.lt _ rfl).1); obtain ⟨r0, r1, rf0, rf1⟩ := HR0.out.keepB hb2 (by omega)))
    all_goals
      go_wp2_with fail
      have hS := (Box2.mk r0 r1 rf0 rf1).set (.slice (some ⟨g2, 0, none⟩) (L.length + 1) cap2) (.slice pm nm' cm)
      have hbel : Below w.heap.size w ((w2.setCell ⟨w.heap.size + 1, 0, none⟩ (.slice (some ⟨g2, 0, none⟩) (L.length + 1) cap2)).setCell ⟨w.heap.size + 1, 1, none⟩ (.slice pm nm' cm)) := ((HBW.out.trans (hb2.mono (by omega))).setCell (by simp) _).setCell (by simp) _
      have hit : ItemsAt ((w2.setCell ⟨w.heap.size + 1, 0, none⟩ (.slice (some ⟨g2, 0, none⟩) (L.length + 1) cap2)).setCell ⟨w.heap.size + 1, 1, none⟩ (.slice pm nm' cm)) (.slice (some ⟨g2, 0, none⟩) (L.length + 1) cap2) (L ++ [.far ⟨op, c, 0, 0, true, 0⟩ nm]) := items_fin hown2 (by simp) (by rw [List.flatMap_append]; rfl) (by omega) _ _
      have hfin := RJumpOk.yes (lv := (.slice (some ⟨g, 0, none⟩) L.length cl)) (mv := .slice pm nm' cm) hc6 hit hbel (fun kk hkk => by have := (hown2.lt kk hkk).1; omega)
      clear hit hbel r0 r1 rf0 rf1 hown2 hg2 hb2 HKS HKS2 HW1 HW2 HN1 HN2 HR0 HB0 HX0
      generalize (w2.setCell ⟨w.heap.size + 1, 0, none⟩ (.slice (some ⟨g2, 0, none⟩) (L.length + 1) cap2)).setCell ⟨w.heap.size + 1, 1, none⟩ (.slice pm nm' cm) = W9 at *
      obtain ⟨s0, s1, _, _⟩ := hS
      refine bodyPost_ret (by simp [results, Tryd.results41, go_sem, s0, s1]; try rfl) rfl ?_
      exact hfin
end Go.Proofs.YtfbbodaapkfbdaaDoor
/- The document's list (muntinref07): Mark; Jump whatever it is given. -/
namespace Go.Proofs.YtfbbodaapkfbdaaDoor
open Go.RowKit Go.Maps
set_option linter.unusedVariables false
set_option linter.unusedSimpArgs false
theorem rjump_any (w : World) (lv : Value) (pm : Option Addr) (nm' cm : Nat) (L : List It) (hq : ItemsAt w lv L) (op c : Int) (ho : 0 ≤ op ∧ op < 256) (hc0 : 0 ≤ c) (nm : ByteArray) (hL : L.length < 4294967296) :
    Calls Tryd.prog 41 #[.agg #[lv, .slice pm nm' cm], .int .u8 op, .int .u8 c, .string nm] w (RJumpOk w lv (.slice pm nm' cm) L op c nm) := by
  by_cases hc : c ≤ 6
  · exact rjump_yes w lv pm nm' cm L hq op c ho hc0 hc nm hL
  · exact rjump_no w lv pm nm' cm L hq op c hc nm
theorem infol : (Tryd.prog.info? 113).map (fun i => (i.zero, i.size, i.bytes)) = some (some (.agg #[.string ⟨#[]⟩, .int .i64 0]), 2, 24) := by kernel_rfl
theorem marks_one (M : List (List UInt8 × Int)) : ∀ u ∈ M.flatMap markC, u.oneCell' = true := by
  intro u hu
  obtain ⟨e, _, h⟩ := List.mem_flatMap.1 hu
  simp [markC] at h
  rcases h with rfl | rfl <;> simp [Value.oneCell']
/-- The marks behind a mark; the answer. -/
def markM (M : List (List UInt8 × Int)) (nm : ByteArray) (n : Int) : List (List UInt8 × Int) := if (look M nm.data.toList).isSome = true then M else M ++ [(nm.data.toList, n)]
def markE (M : List (List UInt8 × Int)) (nm : ByteArray) : Int := if (look M nm.data.toList).isSome = true then 9 else 0
/-- What Mark of the document leaves. -/
def RMarkOk (w : World) (lv mv : Value) (M : List (List UInt8 × Int)) (nm : ByteArray) (n : Int) (e : Ending) (w' : World) : Prop :=
  ∃ mv', e = .returned (.tuple #[.agg #[lv, mv'], .int .i64 (markE M nm)]) ∧ MarksAt w' mv' (markM M nm n) ∧ Below w.heap.size w w' ∧ ∀ k, mv'.ownBlock = some k → mv.ownBlock = some k ∨ w.heap.size ≤ k
theorem RMarkOk.no {w w' : World} {lv mv : Value} {M : List (List UInt8 × Int)} {nm : ByteArray} {n : Int} (h : (look M nm.data.toList).isSome = true) (hi : MarksAt w' mv M) (hb : Below w.heap.size w w') : RMarkOk w lv mv M nm n (.returned (.tuple #[.agg #[lv, mv], .int .i64 9])) w' :=
  ⟨mv, by unfold markE; rw [if_pos h], by unfold markM; rw [if_pos h]; exact hi, hb, fun k e => .inl e⟩
theorem RMarkOk.yes {w w' : World} {lv mv mv' : Value} {M : List (List UInt8 × Int)} {nm : ByteArray} {n : Int} (h : ¬ (look M nm.data.toList).isSome = true) (hi : MarksAt w' mv' (M ++ [(nm.data.toList, n)])) (hb : Below w.heap.size w w') (hk : ∀ k, mv'.ownBlock = some k → w.heap.size ≤ k) : RMarkOk w lv mv M nm n (.returned (.tuple #[.agg #[lv, mv'], .int .i64 0])) w' :=
  ⟨mv', by unfold markE; rw [if_neg h], by unfold markM; rw [if_neg h]; exact hi, hb, fun k e => .inr (hk k e)⟩
theorem marks_fin {w2 : World} {B b n : Nat} {e : TypeId} {v : Value} {cs : List Value} {M : List (List UInt8 × Int)} (ho : w2.ownsRow B e 2 v n cs) (hn : n = M.length) (hcs : cs = M.flatMap markC) (hb : b < B) (x y : Value) : MarksAt ((w2.setCell ⟨b, 0, none⟩ x).setCell ⟨b, 1, none⟩ y) v M := by
  subst hn; subst hcs; exact row_fin ho hb x y
set_option maxRecDepth 100000 in
set_option maxHeartbeats 2000000 in
theorem rmark_no (w : World) (pl : Option Addr) (nl cl : Nat) (mv : Value) (M : List (List UInt8 × Int)) (hq : MarksAt w mv M) (nm : ByteArray) (hM : M.length ≤ maxLen) (hlk : (look M nm.data.toList).isSome = true) :
    Calls Tryd.prog 19 #[.agg #[.slice pl nl cl, mv], .string nm] w (RMarkOk w (.slice pl nl cl) mv M nm nl) := by
  obtain ⟨pm, nm', cm, rfl⟩ := hq.shape
  have HQ := ahid hq
  clear hq
  have hle0 : ((w.alloc (.cells #[.slice pl nl cl, (.slice pm nm' cm)] 60)).alloc (.cells #[.slice none 0 0, .slice none 0 0] 60)).heap.size = w.heap.size + 2 := by simp
  have hR : Box2 ((w.alloc (.cells #[.slice pl nl cl, (.slice pm nm' cm)] 60)).alloc (.cells #[.slice none 0 0, .slice none 0 0] 60)) (w.heap.size + 1) (.slice none 0 0) (.slice none 0 0) := by
    have := Box2.new (w.alloc (.cells #[.slice pl nl cl, (.slice pm nm' cm)] 60)) (.slice none 0 0) (.slice none 0 0) 60
    rw [show (w.alloc (.cells #[.slice pl nl cl, (.slice pm nm' cm)] 60)).heap.size = w.heap.size + 1 by simp] at this
    exact this
  have HB0 := ahid ((Box2.new w (.slice pl nl cl) (.slice pm nm' cm) 60).al (.cells #[.slice none 0 0, .slice none 0 0] 60))
  have hbw : Below w.heap.size w ((w.alloc (.cells #[.slice pl nl cl, (.slice pm nm' cm)] 60)).alloc (.cells #[.slice none 0 0, .slice none 0 0] 60)) := ((Below.refl _ _).alloc (Nat.le_refl _) _).alloc (by simp) _
  have HA := ahid (rat_any ((w.alloc (.cells #[.slice pl nl cl, (.slice pm nm' cm)] 60)).alloc (.cells #[.slice none 0 0, .slice none 0 0] 60)) (.slice pl nl cl) (.slice pm nm' cm) M (HQ.out.keep hbw) nm hM)
  have HR0 := ahid hR
  have HBW0 := ahid hbw
  have HSZ := ahid hle0
  clear hR hbw hle0
  go_enter Tryd.func19, Tryd.ntmps19
  go_wp2_with fail
  generalize ((w.alloc (.cells #[.slice pl nl cl, (.slice pm nm' cm)] 60)).alloc (.cells #[.slice none 0 0, .slice none 0 0] 60)) = W1 at *
  refine HA.out.mono ?_
  rw [show atE M nm = 0 from by unfold atE; first | rw [if_pos hlk] | rw [if_neg hlk]]
  rintro e W ⟨rfl, hb⟩
  replace HB0 := ahid (HB0.out.keepB hb HB0.out.lt)
  replace HR0 := ahid (HR0.out.keepB hb HR0.out.lt)
  have HBW := ahid (HBW0.out.trans (hb.mono HBW0.out.size))
  have HLE := ahid (show w.heap.size + 2 ≤ W.heap.size by have := hb.size; have := HSZ.out; omega)
  have HLK := ahid hlk
  clear hb HA HBW0 hlk
  generalize atN M nm = na
  obtain ⟨b0, b1, bf0, bf1⟩ := HB0.out
  obtain ⟨r0, r1, rf0, rf1⟩ := HR0.out
  go_wp2_with fail
  have hS := (Box2.mk r0 r1 rf0 rf1).set (.slice pl nl cl) (.slice pm nm' cm)
  have hbel : Below w.heap.size w ((W.setCell ⟨w.heap.size + 1, 0, none⟩ (.slice pl nl cl)).setCell ⟨w.heap.size + 1, 1, none⟩ (.slice pm nm' cm)) := (HBW.out.setCell (by simp) _).setCell (by simp) _
  have hfin := RMarkOk.no (lv := .slice pl nl cl) (n := nl) HLK.out (HQ.out.keep hbel) hbel
  clear hbel b0 b1 bf0 bf1 r0 r1 rf0 rf1 HB0 HR0
  generalize (W.setCell ⟨w.heap.size + 1, 0, none⟩ (.slice pl nl cl)).setCell ⟨w.heap.size + 1, 1, none⟩ (.slice pm nm' cm) = W9 at *
  obtain ⟨s0, s1, _, _⟩ := hS
  refine bodyPost_ret (by simp [results, Tryd.results19, go_sem, s0, s1]; try rfl) rfl ?_
  exact hfin
set_option maxRecDepth 100000 in
set_option maxHeartbeats 4000000 in
theorem rmark_nil (w : World) (pl : Option Addr) (nl cl : Nat)  (M : List (List UInt8 × Int)) (hq : MarksAt w (.slice none 0 0) M) (nm : ByteArray) (hM : M.length ≤ maxLen) (hM2 : M.length < 4294967296) (hlk : ¬ (look M nm.data.toList).isSome = true) (hl0 : M.length = 0) :
    Calls Tryd.prog 19 #[.agg #[.slice pl nl cl, (.slice none 0 0)], .string nm] w (RMarkOk w (.slice pl nl cl) (.slice none 0 0) M nm nl) := by
  have HQ := ahid hq
  have HL0 := ahid hl0
  clear hl0 hq
  obtain ⟨i0, hi, hz0, hz1, hz2⟩ := info_parts infol
  have HII := ahid (And.intro hi (And.intro hz0 (And.intro hz1 hz2)))
  clear hi hz0 hz1 hz2
  have hle0 : ((w.alloc (.cells #[.slice pl nl cl, (.slice none 0 0)] 60)).alloc (.cells #[.slice none 0 0, .slice none 0 0] 60)).heap.size = w.heap.size + 2 := by simp
  have hR : Box2 ((w.alloc (.cells #[.slice pl nl cl, (.slice none 0 0)] 60)).alloc (.cells #[.slice none 0 0, .slice none 0 0] 60)) (w.heap.size + 1) (.slice none 0 0) (.slice none 0 0) := by
    have := Box2.new (w.alloc (.cells #[.slice pl nl cl, (.slice none 0 0)] 60)) (.slice none 0 0) (.slice none 0 0) 60
    rw [show (w.alloc (.cells #[.slice pl nl cl, (.slice none 0 0)] 60)).heap.size = w.heap.size + 1 by simp] at this
    exact this
  have HB0 := ahid ((Box2.new w (.slice pl nl cl) (.slice none 0 0) 60).al (.cells #[.slice none 0 0, .slice none 0 0] 60))
  have hbw : Below w.heap.size w ((w.alloc (.cells #[.slice pl nl cl, (.slice none 0 0)] 60)).alloc (.cells #[.slice none 0 0, .slice none 0 0] 60)) := ((Below.refl _ _).alloc (Nat.le_refl _) _).alloc (by simp) _
  have HA := ahid (rat_any ((w.alloc (.cells #[.slice pl nl cl, (.slice none 0 0)] 60)).alloc (.cells #[.slice none 0 0, .slice none 0 0] 60)) (.slice pl nl cl) (.slice none 0 0) M (HQ.out.keep hbw) nm hM)
  have HR0 := ahid hR
  have HBW0 := ahid hbw
  have HSZ := ahid hle0
  clear hR hbw hle0
  go_enter Tryd.func19, Tryd.ntmps19
  go_wp2_with fail
  generalize ((w.alloc (.cells #[.slice pl nl cl, (.slice none 0 0)] 60)).alloc (.cells #[.slice none 0 0, .slice none 0 0] 60)) = W1 at *
  refine HA.out.mono ?_
  rw [show atE M nm = 7 from by unfold atE; first | rw [if_pos hlk] | rw [if_neg hlk]]
  rintro e W ⟨rfl, hb⟩
  replace HB0 := ahid (HB0.out.keepB hb HB0.out.lt)
  replace HR0 := ahid (HR0.out.keepB hb HR0.out.lt)
  have HBW := ahid (HBW0.out.trans (hb.mono HBW0.out.size))
  have HLE := ahid (show w.heap.size + 2 ≤ W.heap.size by have := hb.size; have := HSZ.out; omega)
  have HLK := ahid hlk
  clear hb HA HBW0 hlk
  generalize atN M nm = na
  go_wp2_with fail
  have HKS := ahid (show ∀ w', Below (w.heap.size + 2) W w' → w'.cell? ⟨w.heap.size, 0, none⟩ = some (.slice pl nl cl) ∧ w'.cell? ⟨w.heap.size, 1, none⟩ = some (.slice none 0 0) from fun w' hb => by
    have h1 := HB0.out.keepB hb (by omega)
    exact ⟨h1.c0, h1.c1⟩)
  have HKS2 := ahid (show ∀ w' u v, Below (w.heap.size + 2) W w' → (fun w' => w'.cell? ⟨w.heap.size, 0, none⟩ = some (.slice pl nl cl) ∧ w'.cell? ⟨w.heap.size, 1, none⟩ = some (.slice none 0 0)) ((w'.setCell ⟨w.heap.size + 1, 0, none⟩ u).setCell ⟨w.heap.size + 1, 1, none⟩ v) from fun w' u v hb => by
    have h1 := HKS.out w' hb
    have k : ∀ (b i : Nat) (x : Value), b ≠ w.heap.size + 1 → w'.cell? ⟨b, i, none⟩ = some x → ((w'.setCell ⟨w.heap.size + 1, 0, none⟩ u).setCell ⟨w.heap.size + 1, 1, none⟩ v).cell? ⟨b, i, none⟩ = some x := fun b i x hne h => ((World.cell?_setCell_far _ _ _ _ (fun e => hne e.symm)).trans (World.cell?_setCell_far _ _ _ _ (fun e => hne e.symm))).trans h
    exact ⟨k _ _ _ (by omega) h1.1, k _ _ _ (by omega) h1.2⟩)
  have hi := HII.out.1
  have hbl0 := Below.refl (w.heap.size + 2) W
  have hle : w.heap.size + 2 ≤ W.heap.size := HLE.out
  have HW1 : Hid ((W.alloc (.cells #[] 113)).ownsRow (w.heap.size + 2) 113 2 (.slice (some ⟨W.heap.size, 0, none⟩) 0 0) 0 []) := ahid (World.ownsRow_made W #[] 0 hle (Nat.zero_le _) rfl)
  have HW2 : Hid (((W.alloc (.cells #[.string nm, .int .i64 nl] 113)).alloc (.cells #[] 113)).ownsRow (w.heap.size + 2) 113 2 (.slice (some ⟨W.heap.size + 1, 0, none⟩) 0 0) 0 []) := by
    have h := World.ownsRow_made (base := w.heap.size + 2) (size := 2) (e := 113) (W.alloc (.cells #[.string nm, .int .i64 nl] 113)) #[] 0 (by simp; omega) (Nat.zero_le _) rfl
    rw [show (W.alloc (.cells #[.string nm, .int .i64 nl] 113)).heap.size = W.heap.size + 1 by simp] at h
    exact ahid h
  have HN1 : Hid (∀ (j : Nat) u, [.string nm, .int .i64 nl][j]? = some u → ((W.alloc (.cells #[] 113)).alloc (.cells #[.string nm, .int .i64 nl] 113)).drew.cell? ((⟨W.heap.size + 1, 0, none⟩ : Addr).add j) = some u) := by
    have h := cells_new (W.alloc (.cells #[] 113)) #[.string nm, .int .i64 nl] 113
    rw [show (W.alloc (.cells #[] 113)).heap.size = W.heap.size + 1 by simp] at h
    exact ahid h
  have HN2 : Hid (∀ (j : Nat) u, [.string nm, .int .i64 nl][j]? = some u → ((W.alloc (.cells #[.string nm, .int .i64 nl] 113)).alloc (.cells #[] 113)).drew.cell? ((⟨W.heap.size, 0, none⟩ : Addr).add j) = some u) := ahid fun j u hu => Lib.cell?_alloc_some _ (cells_new W #[.string nm, .int .i64 nl] 113 j u hu)
  go_region_held3 (fun w' => w'.cell? ⟨w.heap.size, 0, none⟩ = some (.slice pl nl cl) ∧ w'.cell? ⟨w.heap.size, 1, none⟩ = some (.slice none 0 0)) (first | (refine HKS.out _ ?_; go_grown; done) | (refine HKS2.out _ _ _ ?_; go_grown; done))
    (first
      | (refine step_append_none _ (by rfl) (.tmp 19) (.tmp 21) 58 (by rfl) (w.heap.size + 2) 113 i0 2 Tryd.underlying58 hi (.slice (some ⟨W.heap.size, 0, none⟩) 0 0) 0 [] (by rfl) HW1.out.drew (by rfl) ?_)
      | (refine step_append_none _ (by rfl) (.tmp 19) (.tmp 21) 58 (by rfl) (w.heap.size + 2) 113 i0 2 Tryd.underlying58 hi (.slice (some ⟨W.heap.size, 0, none⟩) 0 0) 0 [] (by rfl) ((HW1.out.alloc _).drew) (by rfl) ?_)
      | (refine step_append_none _ (by rfl) (.tmp 19) (.tmp 21) 58 (by rfl) (w.heap.size + 2) 113 i0 2 Tryd.underlying58 hi (.slice (some ⟨W.heap.size + 1, 0, none⟩) 0 0) 0 [] (by rfl) HW2.out.drew (by rfl) ?_)
      | (refine step_append_some _ (by rfl) (.tmp 22) (.tmp 28) 58 (by rfl) (w.heap.size + 2) 113 i0 _ 2 24 Tryd.underlying58 hi HII.out.2.1 HII.out.2.2.1 HII.out.2.2.2 rfl (by decide) W.heap.size (0) 0 ([]) (by rfl) ((HW1.out.alloc _).drew) ⟨W.heap.size + 1, 0, none⟩ (1) 1 ([.string nm, .int .i64 nl]) (by rfl) (by rfl) HN1.out (by simp [Value.oneCell']) (by unfold maxLen; omega) (by omega) (by first | exact hle | (simp; omega) | (have := hbA.size; simp; omega)) ?_; intro g2 cap2 w2 hown2 hg2; have hb2 : Below (w.heap.size + 2) W w2 := Below.grown (by go_grown) hg2 (by first | exact hle | (simp; omega) | (have := hbA.size; simp; omega)) (by intro k hk; cases hk; first | exact hle | omega | exact (hownA.lt _ rfl).1); obtain ⟨r0, r1, rf0, rf1⟩ := HR0.out.keepB hb2 (by omega))
      | (refine step_append_some _ (by rfl) (.tmp 22) (.tmp 28) 58 (by rfl) (w.heap.size + 2) 113 i0 _ 2 24 Tryd.underlying58 hi HII.out.2.1 HII.out.2.2.1 HII.out.2.2.2 rfl (by decide) (W.heap.size + 1) (0) 0 ([]) (by rfl) HW2.out.drew ⟨W.heap.size, 0, none⟩ (1) 1 ([.string nm, .int .i64 nl]) (by rfl) (by rfl) HN2.out (by simp [Value.oneCell']) (by unfold maxLen; omega) (by omega) (by first | exact hle | (simp; omega) | (have := hbA.size; simp; omega)) ?_; intro g2 cap2 w2 hown2 hg2; have hb2 : Below (w.heap.size + 2) W w2 := Below.grown (by go_grown) hg2 (by first | exact hle | (simp; omega) | (have := hbA.size; simp; omega)) (by intro k hk; cases hk; first | exact hle | omega | exact (hownA.lt _ rfl).1); obtain ⟨r0, r1, rf0, rf1⟩ := HR0.out.keepB hb2 (by omega)))
  all_goals
    go_wp2_with fail
    have hS := (Box2.mk r0 r1 rf0 rf1).set (.slice pl nl cl) (.slice (some ⟨g2, 0, none⟩) 1 cap2)
    have hbel : Below w.heap.size w ((w2.setCell ⟨w.heap.size + 1, 0, none⟩ (.slice pl nl cl)).setCell ⟨w.heap.size + 1, 1, none⟩ (.slice (some ⟨g2, 0, none⟩) 1 cap2)) := ((HBW.out.trans (hb2.mono (by omega))).setCell (by simp) _).setCell (by simp) _
    have hit : MarksAt ((w2.setCell ⟨w.heap.size + 1, 0, none⟩ (.slice pl nl cl)).setCell ⟨w.heap.size + 1, 1, none⟩ (.slice (some ⟨g2, 0, none⟩) 1 cap2)) (.slice (some ⟨g2, 0, none⟩) 1 cap2) (M ++ [(nm.data.toList, (nl : Int))]) := marks_fin hown2 (by rw [List.length_append, HL0.out]; rfl) (by rw [List.eq_nil_of_length_eq_zero HL0.out]; simp [markC]) (by omega) _ _
    have hfin := RMarkOk.yes (lv := .slice pl nl cl) (mv := (.slice none 0 0)) HLK.out hit hbel (fun kk hkk => by have := (hown2.lt kk hkk).1; omega)
    clear hit hbel r0 r1 rf0 rf1 hown2 hg2 hb2 HKS HKS2 HW1 HW2 HN1 HN2 HR0 HB0
    generalize (w2.setCell ⟨w.heap.size + 1, 0, none⟩ (.slice pl nl cl)).setCell ⟨w.heap.size + 1, 1, none⟩ (.slice (some ⟨g2, 0, none⟩) 1 cap2) = W9 at *
    obtain ⟨s0, s1, _, _⟩ := hS
    refine bodyPost_ret (by simp [results, Tryd.results19, go_sem, s0, s1]; try rfl) rfl ?_
    exact hfin
set_option maxRecDepth 100000 in
set_option maxHeartbeats 4000000 in
theorem rmark_some (w : World) (pl : Option Addr) (nl cl : Nat) (g cap : Nat) (M : List (List UInt8 × Int)) (hq : MarksAt w (.slice (some ⟨g, 0, none⟩) M.length cap) M) (nm : ByteArray) (hM : M.length ≤ maxLen) (hM2 : M.length < 4294967296) (hlk : ¬ (look M nm.data.toList).isSome = true) (hg : g < w.heap.size) (hcells : ∀ (j : Nat) u, (M.flatMap markC)[j]? = some u → w.cell? ⟨g, j, none⟩ = some u) :
    Calls Tryd.prog 19 #[.agg #[.slice pl nl cl, (.slice (some ⟨g, 0, none⟩) M.length cap)], .string nm] w (RMarkOk w (.slice pl nl cl) (.slice (some ⟨g, 0, none⟩) M.length cap) M nm nl) := by
  have HQ := ahid hq
  have HG := ahid (And.intro hg hcells)
  clear hg hcells hq
  obtain ⟨i0, hi, hz0, hz1, hz2⟩ := info_parts infol
  have HII := ahid (And.intro hi (And.intro hz0 (And.intro hz1 hz2)))
  clear hi hz0 hz1 hz2
  have hle0 : ((w.alloc (.cells #[.slice pl nl cl, (.slice (some ⟨g, 0, none⟩) M.length cap)] 60)).alloc (.cells #[.slice none 0 0, .slice none 0 0] 60)).heap.size = w.heap.size + 2 := by simp
  have hR : Box2 ((w.alloc (.cells #[.slice pl nl cl, (.slice (some ⟨g, 0, none⟩) M.length cap)] 60)).alloc (.cells #[.slice none 0 0, .slice none 0 0] 60)) (w.heap.size + 1) (.slice none 0 0) (.slice none 0 0) := by
    have := Box2.new (w.alloc (.cells #[.slice pl nl cl, (.slice (some ⟨g, 0, none⟩) M.length cap)] 60)) (.slice none 0 0) (.slice none 0 0) 60
    rw [show (w.alloc (.cells #[.slice pl nl cl, (.slice (some ⟨g, 0, none⟩) M.length cap)] 60)).heap.size = w.heap.size + 1 by simp] at this
    exact this
  have HB0 := ahid ((Box2.new w (.slice pl nl cl) (.slice (some ⟨g, 0, none⟩) M.length cap) 60).al (.cells #[.slice none 0 0, .slice none 0 0] 60))
  have hbw : Below w.heap.size w ((w.alloc (.cells #[.slice pl nl cl, (.slice (some ⟨g, 0, none⟩) M.length cap)] 60)).alloc (.cells #[.slice none 0 0, .slice none 0 0] 60)) := ((Below.refl _ _).alloc (Nat.le_refl _) _).alloc (by simp) _
  have HA := ahid (rat_any ((w.alloc (.cells #[.slice pl nl cl, (.slice (some ⟨g, 0, none⟩) M.length cap)] 60)).alloc (.cells #[.slice none 0 0, .slice none 0 0] 60)) (.slice pl nl cl) (.slice (some ⟨g, 0, none⟩) M.length cap) M (HQ.out.keep hbw) nm hM)
  have HR0 := ahid hR
  have HBW0 := ahid hbw
  have HSZ := ahid hle0
  clear hR hbw hle0
  go_enter Tryd.func19, Tryd.ntmps19
  go_wp2_with fail
  generalize ((w.alloc (.cells #[.slice pl nl cl, (.slice (some ⟨g, 0, none⟩) M.length cap)] 60)).alloc (.cells #[.slice none 0 0, .slice none 0 0] 60)) = W1 at *
  refine HA.out.mono ?_
  rw [show atE M nm = 7 from by unfold atE; first | rw [if_pos hlk] | rw [if_neg hlk]]
  rintro e W ⟨rfl, hb⟩
  replace HB0 := ahid (HB0.out.keepB hb HB0.out.lt)
  replace HR0 := ahid (HR0.out.keepB hb HR0.out.lt)
  have HBW := ahid (HBW0.out.trans (hb.mono HBW0.out.size))
  have HLE := ahid (show w.heap.size + 2 ≤ W.heap.size by have := hb.size; have := HSZ.out; omega)
  have HLK := ahid hlk
  clear hb HA HBW0 hlk
  generalize atN M nm = na
  go_wp2_with fail
  have HKS := ahid (show ∀ w', Below (w.heap.size + 2) W w' → w'.cell? ⟨w.heap.size, 0, none⟩ = some (.slice pl nl cl) ∧ w'.cell? ⟨w.heap.size, 1, none⟩ = some (.slice (some ⟨g, 0, none⟩) M.length cap) from fun w' hb => by
    have h1 := HB0.out.keepB hb (by omega)
    exact ⟨h1.c0, h1.c1⟩)
  have HKS2 := ahid (show ∀ w' u v, Below (w.heap.size + 2) W w' → (fun w' => w'.cell? ⟨w.heap.size, 0, none⟩ = some (.slice pl nl cl) ∧ w'.cell? ⟨w.heap.size, 1, none⟩ = some (.slice (some ⟨g, 0, none⟩) M.length cap)) ((w'.setCell ⟨w.heap.size + 1, 0, none⟩ u).setCell ⟨w.heap.size + 1, 1, none⟩ v) from fun w' u v hb => by
    have h1 := HKS.out w' hb
    have k : ∀ (b i : Nat) (x : Value), b ≠ w.heap.size + 1 → w'.cell? ⟨b, i, none⟩ = some x → ((w'.setCell ⟨w.heap.size + 1, 0, none⟩ u).setCell ⟨w.heap.size + 1, 1, none⟩ v).cell? ⟨b, i, none⟩ = some x := fun b i x hne h => ((World.cell?_setCell_far _ _ _ _ (fun e => hne e.symm)).trans (World.cell?_setCell_far _ _ _ _ (fun e => hne e.symm))).trans h
    exact ⟨k _ _ _ (by omega) h1.1, k _ _ _ (by omega) h1.2⟩)
  have HSRC := ahid (fun (j : Nat) (u : Value) (hu : (M.flatMap markC)[j]? = some u) => show W.cell? ((⟨g, 0, none⟩ : Addr).add j) = some u by rw [addr_add0]; exact ((acell HBW.out).1 g j HG.out.1).trans (HG.out.2 j u hu))
  have hi := HII.out.1
  have hbl0 := Below.refl (w.heap.size + 2) W
  have hle : w.heap.size + 2 ≤ W.heap.size := HLE.out
  have HW1 : Hid ((W.alloc (.cells #[] 113)).ownsRow (w.heap.size + 2) 113 2 (.slice (some ⟨W.heap.size, 0, none⟩) 0 0) 0 []) := ahid (World.ownsRow_made W #[] 0 hle (Nat.zero_le _) rfl)
  have HW2 : Hid (((W.alloc (.cells #[.string nm, .int .i64 nl] 113)).alloc (.cells #[] 113)).ownsRow (w.heap.size + 2) 113 2 (.slice (some ⟨W.heap.size + 1, 0, none⟩) 0 0) 0 []) := by
    have h := World.ownsRow_made (base := w.heap.size + 2) (size := 2) (e := 113) (W.alloc (.cells #[.string nm, .int .i64 nl] 113)) #[] 0 (by simp; omega) (Nat.zero_le _) rfl
    rw [show (W.alloc (.cells #[.string nm, .int .i64 nl] 113)).heap.size = W.heap.size + 1 by simp] at h
    exact ahid h
  have HN1 : Hid (∀ (j : Nat) u, [.string nm, .int .i64 nl][j]? = some u → ((W.alloc (.cells #[] 113)).alloc (.cells #[.string nm, .int .i64 nl] 113)).drew.cell? ((⟨W.heap.size + 1, 0, none⟩ : Addr).add j) = some u) := by
    have h := cells_new (W.alloc (.cells #[] 113)) #[.string nm, .int .i64 nl] 113
    rw [show (W.alloc (.cells #[] 113)).heap.size = W.heap.size + 1 by simp] at h
    exact ahid h
  have HN2 : Hid (∀ (j : Nat) u, [.string nm, .int .i64 nl][j]? = some u → ((W.alloc (.cells #[.string nm, .int .i64 nl] 113)).alloc (.cells #[] 113)).drew.cell? ((⟨W.heap.size, 0, none⟩ : Addr).add j) = some u) := ahid fun j u hu => Lib.cell?_alloc_some _ (cells_new W #[.string nm, .int .i64 nl] 113 j u hu)
  go_region_held3 (fun w' => w'.cell? ⟨w.heap.size, 0, none⟩ = some (.slice pl nl cl) ∧ w'.cell? ⟨w.heap.size, 1, none⟩ = some (.slice (some ⟨g, 0, none⟩) M.length cap)) (first | (refine HKS.out _ ?_; go_grown; done) | (refine HKS2.out _ _ _ ?_; go_grown; done))
    (first
      | (refine step_append_some _ (by rfl) (.tmp 19) (.tmp 21) 58 (by rfl) (w.heap.size + 2) 113 i0 _ 2 24 Tryd.underlying58 hi HII.out.2.1 HII.out.2.2.1 HII.out.2.2.2 rfl (by decide) W.heap.size (0) 0 ([]) (by rfl) HW1.out.drew ⟨g, 0, none⟩ (M.length) cap (M.flatMap markC) (by rfl) HQ.out.1 (fun j u hu => Lib.cell?_alloc_some _ (HSRC.out j u hu)) (marks_one M) (by unfold maxLen; omega) (by omega) (by first | exact hle | (simp; omega) | (have := hbA.size; simp; omega)) ?_; intro gA capA wA hownA hgA; rw [Nat.zero_add, List.nil_append] at hownA; have hbA : Below (w.heap.size + 2) W wA := Below.grown (by go_grown) hgA (by first | exact hle | (simp; omega)) (by intro k hk; cases hk; first | exact hle | omega); have hleA : w.heap.size + 2 ≤ wA.heap.size := Nat.le_trans hle hbA.size)
      | (refine step_append_some _ (by rfl) (.tmp 19) (.tmp 21) 58 (by rfl) (w.heap.size + 2) 113 i0 _ 2 24 Tryd.underlying58 hi HII.out.2.1 HII.out.2.2.1 HII.out.2.2.2 rfl (by decide) W.heap.size (0) 0 ([]) (by rfl) ((HW1.out.alloc _).drew) ⟨g, 0, none⟩ (M.length) cap (M.flatMap markC) (by rfl) HQ.out.1 (fun j u hu => Lib.cell?_alloc_some _ (Lib.cell?_alloc_some _ (HSRC.out j u hu))) (marks_one M) (by unfold maxLen; omega) (by omega) (by first | exact hle | (simp; omega) | (have := hbA.size; simp; omega)) ?_; intro gA capA wA hownA hgA; rw [Nat.zero_add, List.nil_append] at hownA; have hbA : Below (w.heap.size + 2) W wA := Below.grown (by go_grown) hgA (by first | exact hle | (simp; omega)) (by intro k hk; cases hk; first | exact hle | omega); have hleA : w.heap.size + 2 ≤ wA.heap.size := Nat.le_trans hle hbA.size; have hXB : ∀ (j : Nat) u, [.string nm, .int .i64 nl][j]? = some u → wA.cell? ((⟨W.heap.size + 1, 0, none⟩ : Addr).add j) = some u := (fun j u hu => (hgA.cell_far _ (by rw [addr_add0]; simp <;> omega) (by rw [addr_add0]; simp)).trans (HN1.out j u hu)))
      | (refine step_append_some _ (by rfl) (.tmp 19) (.tmp 21) 58 (by rfl) (w.heap.size + 2) 113 i0 _ 2 24 Tryd.underlying58 hi HII.out.2.1 HII.out.2.2.1 HII.out.2.2.2 rfl (by decide) (W.heap.size + 1) (0) 0 ([]) (by rfl) HW2.out.drew ⟨g, 0, none⟩ (M.length) cap (M.flatMap markC) (by rfl) HQ.out.1 (fun j u hu => Lib.cell?_alloc_some _ (Lib.cell?_alloc_some _ (HSRC.out j u hu))) (marks_one M) (by unfold maxLen; omega) (by omega) (by first | exact hle | (simp; omega) | (have := hbA.size; simp; omega)) ?_; intro gA capA wA hownA hgA; rw [Nat.zero_add, List.nil_append] at hownA; have hbA : Below (w.heap.size + 2) W wA := Below.grown (by go_grown) hgA (by first | exact hle | (simp; omega)) (by intro k hk; cases hk; first | exact hle | omega); have hleA : w.heap.size + 2 ≤ wA.heap.size := Nat.le_trans hle hbA.size; have hXC : ∀ (j : Nat) u, [.string nm, .int .i64 nl][j]? = some u → wA.cell? ((⟨W.heap.size, 0, none⟩ : Addr).add j) = some u := (fun j u hu => (hgA.cell_far _ (by rw [addr_add0]; simp <;> omega) (by rw [addr_add0]; simp)).trans (HN2.out j u hu)))
      | (have _t := hXB; refine step_append_some _ (by rfl) (.tmp 22) (.tmp 28) 58 (by rfl) (w.heap.size + 2) 113 i0 _ 2 24 Tryd.underlying58 hi HII.out.2.1 HII.out.2.2.1 HII.out.2.2.2 rfl (by decide) gA (M.length) capA (_) (by first | rfl | exact (congrArg (fun k => Value.slice (some ⟨gA, 0, none⟩) k capA) (Nat.zero_add _))) hownA ⟨W.heap.size + 1, 0, none⟩ (1) 1 ([.string nm, .int .i64 nl]) (by rfl) (by rfl) hXB (by simp [Value.oneCell']) (by unfold maxLen; omega) (by omega) (by first | exact hle | (simp; omega) | (have := hbA.size; simp; omega)) ?_; intro g2 cap2 w2 hown2 hg2; have hb2 : Below (w.heap.size + 2) W w2 := Below.grown (by go_grown) hg2 (by first | exact hle | (simp; omega) | (have := hbA.size; simp; omega)) (by intro k hk; cases hk; first | exact hle | omega | exact (hownA.lt _ rfl).1); obtain ⟨r0, r1, rf0, rf1⟩ := HR0.out.keepB hb2 (by omega))
      | (have _t := hXC; refine step_append_some _ (by rfl) (.tmp 22) (.tmp 28) 58 (by rfl) (w.heap.size + 2) 113 i0 _ 2 24 Tryd.underlying58 hi HII.out.2.1 HII.out.2.2.1 HII.out.2.2.2 rfl (by decide) gA (M.length) capA (_) (by first | rfl | exact (congrArg (fun k => Value.slice (some ⟨gA, 0, none⟩) k capA) (Nat.zero_add _))) hownA ⟨W.heap.size, 0, none⟩ (1) 1 ([.string nm, .int .i64 nl]) (by rfl) (by rfl) hXC (by simp [Value.oneCell']) (by unfold maxLen; omega) (by omega) (by first | exact hle | (simp; omega) | (have := hbA.size; simp; omega)) ?_; intro g2 cap2 w2 hown2 hg2; have hb2 : Below (w.heap.size + 2) W w2 := Below.grown (by go_grown) hg2 (by first | exact hle | (simp; omega) | (have := hbA.size; simp; omega)) (by intro k hk; cases hk; first | exact hle | omega | exact (hownA.lt _ rfl).1); obtain ⟨r0, r1, rf0, rf1⟩ := HR0.out.keepB hb2 (by omega))
      | (refine step_append_some _ (by rfl) (.tmp 22) (.tmp 28) 58 (by rfl) (w.heap.size + 2) 113 i0 _ 2 24 Tryd.underlying58 hi HII.out.2.1 HII.out.2.2.1 HII.out.2.2.2 rfl (by decide) gA (M.length) capA (_) (by first | rfl | exact (congrArg (fun k => Value.slice (some ⟨gA, 0, none⟩) k capA) (Nat.zero_add _))) (hownA.alloc _) ⟨wA.heap.size, 0, none⟩ (1) 1 ([.string nm, .int .i64 nl]) (by rfl) (by rfl) (cells_new wA _ _) (by simp [Value.oneCell']) (by unfold maxLen; omega) (by omega) (by first | exact hle | (simp; omega) | (have := hbA.size; simp; omega)) ?_; intro g2 cap2 w2 hown2 hg2; have hb2 : Below (w.heap.size + 2) W w2 := Below.grown (by go_grown) hg2 (by first | exact hle | (simp; omega) | (have := hbA.size; simp; omega)) (by intro k hk; cases hk; first | exact hle | omega | exact (hownA.lt _ rfl).1); obtain ⟨r0, r1, rf0, rf1⟩ := HR0.out.keepB hb2 (by omega)))
  all_goals
    go_wp2_with fail
    have hS := (Box2.mk r0 r1 rf0 rf1).set (.slice pl nl cl) (.slice (some ⟨g2, 0, none⟩) (M.length + 1) cap2)
    have hbel : Below w.heap.size w ((w2.setCell ⟨w.heap.size + 1, 0, none⟩ (.slice pl nl cl)).setCell ⟨w.heap.size + 1, 1, none⟩ (.slice (some ⟨g2, 0, none⟩) (M.length + 1) cap2)) := ((HBW.out.trans (hb2.mono (by omega))).setCell (by simp) _).setCell (by simp) _
    have hit : MarksAt ((w2.setCell ⟨w.heap.size + 1, 0, none⟩ (.slice pl nl cl)).setCell ⟨w.heap.size + 1, 1, none⟩ (.slice (some ⟨g2, 0, none⟩) (M.length + 1) cap2)) (.slice (some ⟨g2, 0, none⟩) (M.length + 1) cap2) (M ++ [(nm.data.toList, (nl : Int))]) := marks_fin hown2 (by simp) (by rw [List.flatMap_append]; simp [markC]) (by omega) _ _
    have hfin := RMarkOk.yes (lv := .slice pl nl cl) (mv := (.slice (some ⟨g, 0, none⟩) M.length cap)) HLK.out hit hbel (fun kk hkk => by have := (hown2.lt kk hkk).1; omega)
    clear hit hbel r0 r1 rf0 rf1 hown2 hg2 hb2 HKS HKS2 HW1 HW2 HN1 HN2 HR0 HB0
    generalize (w2.setCell ⟨w.heap.size + 1, 0, none⟩ (.slice pl nl cl)).setCell ⟨w.heap.size + 1, 1, none⟩ (.slice (some ⟨g2, 0, none⟩) (M.length + 1) cap2) = W9 at *
    obtain ⟨s0, s1, _, _⟩ := hS
    refine bodyPost_ret (by simp [results, Tryd.results19, go_sem, s0, s1]; try rfl) rfl ?_
    exact hfin
theorem rmark_any (w : World) (pl : Option Addr) (nl cl : Nat) (mv : Value) (M : List (List UInt8 × Int)) (hq : MarksAt w mv M) (nm : ByteArray) (hM2 : M.length < 4294967296) :
    Calls Tryd.prog 19 #[.agg #[.slice pl nl cl, mv], .string nm] w (RMarkOk w (.slice pl nl cl) mv M nm nl) := by
  have hM : M.length ≤ maxLen := by unfold maxLen; omega
  by_cases hlk : (look M nm.data.toList).isSome = true
  · exact rmark_no w pl nl cl mv M hq nm hM hlk
  · have hq2 := hq.2
    rcases hq2 with ⟨rfl, h0⟩ | ⟨g, cap, rfl, _, _, hg, hc⟩
    · exact rmark_nil w pl nl cl M hq nm hM hM2 hlk h0
    · exact rmark_some w pl nl cl g cap M hq nm hM hM2 hlk hg hc
end Go.Proofs.YtfbbodaapkfbdaaDoor
/- The document's list (muntinref07): Parts. -/
namespace Go.Proofs.YtfbbodaapkfbdaaDoor
open Go.RowKit Go.Maps
set_option linter.unusedVariables false
set_option linter.unusedSimpArgs false
/-- What Parts of the document leaves. -/
def RPartsOk (w : World) (rd n : Int) (e : Ending) (w' : World) : Prop := ∃ v, e = .returned v ∧ InsIn w' v (partsS rd n) ∧ Below w.heap.size w w'
end Go.Proofs.YtfbbodaapkfbdaaDoor
/- The document's list (muntinref07): Words. -/
namespace Go.Proofs.YtfbbodaapkfbdaaDoor
open Go.RowKit Go.Maps
set_option linter.unusedVariables false
set_option linter.unusedSimpArgs false
/-- An instruction that goes to a name. -/
def farX (x : Ix) : Prop := (∃ c, 0 ≤ c ∧ c ≤ 6 ∧ x = ⟨17, c, 0, 0, true, 0⟩) ∨ x = ⟨18, 0, 0, 0, true, 0⟩
def FarL (L : List It) : Prop := ∀ x nm, It.far x nm ∈ L → farX x
theorem farX.may {x : Ix} (h : farX x) (d : Int) : mayP { x with imm := d } ↔ -1048576 ≤ d ∧ d < 1048576 := by
  rcases h with ⟨c, h0, h1, rfl⟩ | rfl
  · have hk : kindS 17 = 4 := by decide
    unfold mayP okS
    simp only [hk]
    constructor
    · intro h; have := h.2.2.2; simp at this; omega
    · intro h; refine ⟨by omega, by omega, by omega, ?_⟩; simp; omega
  · have hk : kindS 18 = 5 := by decide
    unfold mayP okS
    simp only [hk]
    constructor
    · intro h; have := h.2.2.2; simp at this; omega
    · intro h; refine ⟨by omega, by omega, by omega, ?_⟩; simp; omega
theorem farX.out {x : Ix} (h : farX x) {d : Int} (hd : ¬ (-1048576 ≤ d ∧ d < 1048576)) : farE x d = 50 := by
  unfold farE; rw [if_neg (fun h2 => hd ((h.may d).1 h2.1))]
theorem farX.in' {x : Ix} (h : farX x) {d : Int} (hd : -1048576 ≤ d ∧ d < 1048576) : farE x d = 0 ∧ farW x d = encS { x with imm := d } := by
  have hm := (h.may d).2 hd
  unfold farE farW
  rw [if_pos ⟨hm, by omega, by omega⟩, if_pos ⟨hm, by omega, by omega⟩]
  exact ⟨rfl, rfl⟩
theorem farX.bd {x : Ix} (h : farX x) {d : Int} (hd : -1048576 ≤ d ∧ d < 1048576) : ({ x with imm := d } : Ix).bd := by
  rcases h with ⟨c, h0, h1, rfl⟩ | rfl <;> (unfold Ix.bd; simp only; omega)
/-- An instruction in a box, that may be written. -/
structure Box6 (w : World) (b : Nat) (x : Ix) : Prop where
  c0 : w.cell? ⟨b, 0, none⟩ = some (.int .u8 x.op)
  c1 : w.cell? ⟨b, 1, none⟩ = some (.int .u8 x.rd)
  c2 : w.cell? ⟨b, 2, none⟩ = some (.int .u8 x.rs1)
  c3 : w.cell? ⟨b, 3, none⟩ = some (.int .u8 x.rs2)
  c4 : w.cell? ⟨b, 4, none⟩ = some (.bool x.is)
  c5 : w.cell? ⟨b, 5, none⟩ = some (.int .i32 x.imm)
  f5 : w.frozen? ⟨b, 5, none⟩ = false
theorem box6 (w : World) (x : Ix) : Box6 (w.alloc (.cells #[.int .u8 x.op, .int .u8 x.rd, .int .u8 x.rs1, .int .u8 x.rs2, .bool x.is, .int .i32 x.imm] 50)) w.heap.size x := by
  have h := heap_alloc_new w (.cells #[.int .u8 x.op, .int .u8 x.rd, .int .u8 x.rs1, .int .u8 x.rs2, .bool x.is, .int .i32 x.imm] 50)
  exact ⟨by simp only [World.cell?, h]; rfl, by simp only [World.cell?, h]; rfl, by simp only [World.cell?, h]; rfl, by simp only [World.cell?, h]; rfl, by simp only [World.cell?, h]; rfl, by simp only [World.cell?, h]; rfl, by simp only [World.frozen?, h]; rfl⟩
theorem Box6.keep {w w' : World} {B b : Nat} {x : Ix} (h : Box6 w b x) (hb : Below B w w') (hl : b < B) : Box6 w' b x :=
  ⟨(hb.cell (p := ⟨b, 0, none⟩) hl).trans h.c0, (hb.cell (p := ⟨b, 1, none⟩) hl).trans h.c1, (hb.cell (p := ⟨b, 2, none⟩) hl).trans h.c2, (hb.cell (p := ⟨b, 3, none⟩) hl).trans h.c3, (hb.cell (p := ⟨b, 4, none⟩) hl).trans h.c4, (hb.cell (p := ⟨b, 5, none⟩) hl).trans h.c5, (hb.frozen (p := ⟨b, 5, none⟩) hl).trans h.f5⟩
theorem ownsRow_far {W1 w5 w4 : World} {B b : Nat} {e : TypeId} {size n : Nat} {v u : Value} {xs : List Value} {i : Nat} (h : W1.ownsRow B e size v n xs) (h5 : Below W1.heap.size W1 w5) (h4 : Below (w5.setCell ⟨b, i, none⟩ u).heap.size (w5.setCell ⟨b, i, none⟩ u) w4) (hne : ∀ k, v.ownBlock = some k → k ≠ b) : w4.ownsRow B e size v n xs := by
  refine ⟨h.1, ?_⟩
  rcases h.2 with h0 | ⟨g, cap, cur, e1, e2, e3, e4⟩
  · exact .inl h0
  · have hg := lt_of_block e3
    have hs : (w5.setCell ⟨b, i, none⟩ u).heap.size = w5.heap.size := by simp [World.setCell]
    refine .inr ⟨g, cap, cur, e1, e2, ?_, e4⟩
    rw [h4.block g (by rw [hs]; exact Nat.lt_of_lt_of_le hg h5.size), Below.heap_setCell _ _ _ _ (hne g (by rw [e1]; rfl)), h5.block g hg]
    exact e3
/-- Items that were put may be. -/
def PutL (L : List It) : Prop := ∀ x, It.put x ∈ L → x.bd
set_option maxRecDepth 100000 in
set_option maxHeartbeats 4000000 in
theorem rwords_any (w : World) (lv : Value) (pm : Option Addr) (nm' cm : Nat) (L : List It) (M : List (List UInt8 × Int)) (hq : ItemsAt w lv L) (hmq : MarksAt w (.slice pm nm' cm) M) (hF : FarL L) (hP : PutL L) (hL : L.length < 4294967296) (hML : M.length ≤ maxLen) (hM : ∀ nm t, look M nm = some t → 0 ≤ t ∧ t < 4294967296) :
    Calls Tryd.prog 20 #[.agg #[lv, .slice pm nm' cm]] w (WordsOk w L M) := by
  obtain ⟨i0, hi, hz0, hz1, hz2⟩ := info_parts infou
  have HII := ahid (And.intro hi (And.intro hz0 (And.intro hz1 hz2)))
  clear hi hz0 hz1 hz2
  have HM := ahid hM
  have HQ := ahid hq
  have HMQ := ahid hmq
  have HFP := ahid (And.intro hF (And.intro hP hML))
  have hq2 := hq.2
  clear hM hq hmq hF hP hML
  rcases hq2 with ⟨rfl, hl0⟩ | ⟨g, cap, rfl, hcap1, hcap2, hg, hcells⟩
  · obtain rfl : L = [] := List.eq_nil_of_length_eq_zero hl0
    clear hl0
    go_enter Tryd.func20, Tryd.ntmps20
    go_wp2_with fail
    refine wp_loop_rounds 1 ?_
    rw [rounds_succ]
    go_wp2_with fail
    go_ret2
    exact ⟨_, [], rfl, rfl, World.ownsRow_nil _ _ _ _, (Below.refl _ _).alloc (Nat.le_refl _) _⟩
  · have HG := ahid (And.intro hg hcells)
    clear hg hcells
    unfold maxLen at hcap2
    have HB0 := ahid (Box2.new w (.slice (some ⟨g, 0, none⟩) L.length cap) (.slice pm nm' cm) 60)
    have HBW := ahid (show Below w.heap.size w (w.alloc (.cells #[.slice (some ⟨g, 0, none⟩) L.length cap, .slice pm nm' cm] 60)) from (Below.refl _ _).alloc (Nat.le_refl _) _)
    have HSZ := ahid (show (w.alloc (.cells #[.slice (some ⟨g, 0, none⟩) L.length cap, .slice pm nm' cm] 60)).heap.size = w.heap.size + 1 by simp)
    go_enter Tryd.func20, Tryd.ntmps20
    go_wp2_with fail
    generalize w.alloc (.cells #[.slice (some ⟨g, 0, none⟩) L.length cap, .slice pm nm' cm] 60) = W0 at *
    have HZ := ahid (World.ownsRow_nil W0 (w.heap.size + 1) 30 1)
    go_loopw [4, 5] (fun v4 i wr => ∃ (k : Nat) (ov : Value), k ≤ L.length ∧ i = .int .i64 k ∧ ov = v4 ∧ wordsE M 0 (L.take k) = 0 ∧ wr.ownsRow (w.heap.size + 1) 30 1 ov k (u32s (wordsL M 0 (L.take k))) ∧ Below (w.heap.size + 1) W0 wr) (fun _ i _ => L.length - (intOf i).toNat)
    case atStart => exact ⟨0, _, Nat.zero_le _, rfl, rfl, rfl, HZ.out, Below.refl _ _⟩
    case round =>
      obtain ⟨k, ov, hk, rfl, rfl, hz, hrow, hbel⟩ := hrel
      have HR := ahid (And.intro hz (And.intro hrow hbel))
      have hwl : Below w.heap.size w wr := HBW.out.trans (hbel.mono (by omega))
      have hsz1 : w.heap.size + 1 ≤ wr.heap.size := by have := hbel.size; have := HSZ.out; omega
      have HWL := ahid hwl
      obtain ⟨b0, b1, bf0, bf1⟩ := HB0.out.keepB hbel (by omega)
      clear hz hrow hbel hwl bf0 bf1
      by_cases hlt : k < L.length
      · obtain ⟨it, hit⟩ : ∃ it, L[k]? = some it := ⟨_, List.getElem?_eq_getElem hlt⟩
        have hkL : (k : Int) < L.length := by omega
        have HK := ahid hit
        have hc : ∀ (j : Nat) (u : Value), it.cells[j]? = some u → wr.cell? ⟨g, k * 8 + j, none⟩ = some u := fun j u hu => by
          have hj : j < 8 := by
            rcases Nat.lt_or_ge j 8 with h | h
            · exact h
            · rw [List.getElem?_eq_none (by rw [It.cells_len]; exact h)] at hu; cases hu
          exact ((acell HWL.out).1 _ _ HG.out.1).trans (HG.out.2 _ _ (by rw [flat_get It.cells 8 It.cells_len L k j it hit hj]; exact hu))
        have hmem := List.mem_of_getElem? hit
        have hn1 : w.heap.size < wr.heap.size := by omega
        have hn2 : g < wr.heap.size := by have := HG.out.1; omega
        have hn3 : w.heap.size ≠ wr.heap.size := by omega
        have hn4 : g ≠ wr.heap.size := by omega
        clear hit
        cases it with
        | put x =>
          have hbd := HFP.out.2.1 x hmem
          have c0 : wr.cell? ⟨g, k * 8, none⟩ = some (.int .u8 x.op) := hc 0 _ rfl
          have c1 := hc 1 _ rfl
          have c2 := hc 2 _ rfl
          have c3 := hc 3 _ rfl
          have c4 := hc 4 _ rfl
          have c5 := hc 5 _ rfl
          have c6 := hc 6 _ rfl
          have HE := ahid (fun W => renc_any x hbd W)
          have HEz := ahid (show itE M k (.put x) = 0 from rfl)
          have HWD := ahid (show itW M k (.put x) = encS x from rfl)
          clear hc hbd hmem
          obtain ⟨op, rd, rs1, rs2, is, imm⟩ := x
          generalize encS ⟨op, rd, rs1, rs2, is, imm⟩ = q at HE HWD
          generalize encE ⟨op, rd, rs1, rs2, is, imm⟩ = qe at HE
          go_wp2_with fail
          refine (HE.out _).mono ?_
          rintro e w4 ⟨rfl, hb4⟩
          have hba : Below (w.heap.size + 1) W0 w4 := (HR.out.2.2.alloc hsz1 _).trans (hb4.mono (by simp; omega))
          have hown2 := (HR.out.2.1.alloc (.cells #[.int .u8 op, .int .u8 rd, .int .u8 rs1, .int .u8 rs2, .bool is, .int .i32 imm] 50)).kept_below hb4 (by simp; omega)
          have HB3 := ahid (And.intro hba (show w.heap.size + 1 ≤ w4.heap.size by have := hb4.size; simp at this; omega))
          clear hb4 hba b0 b1 c0 c1 c2 c3 c4 c5 c6
          have hi := HII.out.1
          go_wp2_with (first | (at_builtin; refine wpList_append_own _ rfl _ _ 46 rfl (w.heap.size + 1) 30 i0 (.int .u32 0) 1 4 Tryd.underlying46 hi HII.out.2.1 HII.out.2.2.1 HII.out.2.2.2 rfl (by decide) _ k (u32s (wordsL M 0 (L.take k))) rfl (hown2.alloc _) ⟨w4.heap.size, 0, none⟩ 1 1 [.int .u32 q] rfl rfl (cell_one_new _ _ _) (by simp [Value.oneCell']) (by unfold maxLen; omega) (by omega) (by simp; have := HB3.out.2; omega) ?_; intro v' w3 hown3 hgrow3 hnil3))
          obtain ⟨hz3, hl3⟩ := words_step M L k _ HR.out.1 HK.out HEz.out
          have hb3 := (HB3.out.1.alloc HB3.out.2 _).grown hgrow3 (by simp; have := HB3.out.2; omega) (fun i hi => (HR.out.2.1.lt i hi).1)
          have hr3 : w3.ownsRow (w.heap.size + 1) 30 1 v' (k + 1) (u32s (wordsL M 0 (L.take (k + 1)))) := by rw [hl3, HWD.out]; simpa [u32s] using hown3
          clear hl3
          go_roundw
          case rel => exact ⟨k + 1, v', by omega, by go_num, rfl, hz3, hr3, hb3⟩
          case measure => simp [intOf]; omega
        | far x nm =>
          have hfx := HFP.out.1 x nm hmem
          have c0 : wr.cell? ⟨g, k * 8, none⟩ = some (.int .u8 x.op) := hc 0 _ rfl
          have c1 := hc 1 _ rfl
          have c2 := hc 2 _ rfl
          have c3 := hc 3 _ rfl
          have c4 := hc 4 _ rfl
          have c5 := hc 5 _ rfl
          have c6 := hc 6 _ rfl
          have c7 := hc 7 _ rfl
          have HX := ahid hfx
          clear hc hfx hmem
          obtain ⟨op, rd, rs1, rs2, is, imm⟩ := x
          have hX := box6 wr ⟨op, rd, rs1, rs2, is, imm⟩
          have hb1 : Below (w.heap.size + 1) W0 (wr.alloc (.cells #[.int .u8 op, .int .u8 rd, .int .u8 rs1, .int .u8 rs2, .bool is, .int .i32 imm] 50)) := HR.out.2.2.alloc hsz1 _
          have hbw1 : Below w.heap.size w (wr.alloc (.cells #[.int .u8 op, .int .u8 rd, .int .u8 rs1, .int .u8 rs2, .bool is, .int .i32 imm] 50)) := HWL.out.alloc (by omega) _
          have hsz2 : (wr.alloc (.cells #[.int .u8 op, .int .u8 rd, .int .u8 rs1, .int .u8 rs2, .bool is, .int .i32 imm] 50)).heap.size = wr.heap.size + 1 := by simp
          have hown1 := HR.out.2.1.alloc (.cells #[.int .u8 op, .int .u8 rd, .int .u8 rs1, .int .u8 rs2, .bool is, .int .i32 imm] 50)
          have hb0' : (wr.alloc (.cells #[.int .u8 op, .int .u8 rd, .int .u8 rs1, .int .u8 rs2, .bool is, .int .i32 imm] 50)).cell? ⟨w.heap.size, 0, none⟩ = some (.slice (some ⟨g, 0, none⟩) L.length cap) := Lib.cell?_alloc_some _ b0
          have hb1' : (wr.alloc (.cells #[.int .u8 op, .int .u8 rd, .int .u8 rs1, .int .u8 rs2, .bool is, .int .i32 imm] 50)).cell? ⟨w.heap.size, 1, none⟩ = some (.slice pm nm' cm) := Lib.cell?_alloc_some _ b1
          have hc7' : (wr.alloc (.cells #[.int .u8 op, .int .u8 rd, .int .u8 rs1, .int .u8 rs2, .bool is, .int .i32 imm] 50)).cell? ⟨g, k * 8 + 7, none⟩ = some (.string nm) := Lib.cell?_alloc_some _ c7
          have HH := ahid (And.intro hX (And.intro hb1 (And.intro hbw1 (And.intro hsz2 (And.intro hown1 (And.intro hb0' (And.intro hb1' hc7')))))))
          clear hX hb1 hbw1 hsz2 hown1 hb0' hb1' hc7'
          go_wp2_with fail
          generalize wr.alloc (.cells #[.int .u8 op, .int .u8 rd, .int .u8 rs1, .int .u8 rs2, .bool is, .int .i32 imm] 50) = W1 at *
          clear b0 b1 c0 c1 c2 c3 c4 c5 c6 c7
          obtain ⟨hX, hb1, hbw1, hsz2, hown1, b0, b1, c7⟩ := HH.out
          replace hX := ahid hX
          replace hsz2 := ahid hsz2
          clear HH
          have hgw := HG.out.1
          have hsW : w.heap.size + 1 < W1.heap.size := by have := hsz2.out; omega
          cases hlk : look M nm.data.toList with
          | none =>
            have HE7 := ahid (show itE M k (.far ⟨op, rd, rs1, rs2, is, imm⟩ nm) = 7 by simp only [itE, hlk])
            have HAt : Hid (∀ W, Below w.heap.size w W → Calls Tryd.prog 44 #[.agg #[.slice (some ⟨g, 0, none⟩) L.length cap, .slice pm nm' cm], .string nm] W fun e W' => e = .returned (.tuple #[.int .i64 0, .int .i64 7]) ∧ Below W.heap.size W W') := ahid fun W hW => (rat_any W (.slice (some ⟨g, 0, none⟩) L.length cap) (.slice pm nm' cm) M (HMQ.out.keep hW) nm HFP.out.2.2).mono fun e W' hh => by
              rw [show atN M nm = 0 by unfold atN; rw [hlk]; rfl, show atE M nm = 7 by unfold atE; rw [hlk]; rfl] at hh
              exact hh
            have HLK := ahid hlk
            clear hlk
            have hlb : w.heap.size < W1.heap.size := by omega
            have hlg : g < W1.heap.size := by omega
            go_region_held3 (fun w' => w'.cell? ⟨w.heap.size, 0, none⟩ = some (.slice (some ⟨g, 0, none⟩) L.length cap) ∧ w'.cell? ⟨w.heap.size, 1, none⟩ = some (.slice pm nm' cm) ∧ w'.cell? ⟨g, k * 8 + 7, none⟩ = some (.string nm)) (first | exact ⟨b0, b1, c7⟩ | exact ⟨d0, d1, d7⟩)
              (first | (go_at_call 44; refine (HAt.out _ ?hb).mono ?_; (case hb => exact hbw1.drew); rintro e w5 ⟨rfl, hb50⟩; have hb5 : Below W1.heap.size W1 w5 := ((Below.refl W1.heap.size W1).drew).trans hb50; have d0 := ((acell hb5).1 _ _ hlb).trans b0; have d1 := ((acell hb5).1 _ _ hlb).trans b1; have d7 := ((acell hb5).1 _ _ hlg).trans c7))
            all_goals
              go_wp2_with fail
              go_ret2
              exact WordsOk.stop HR.out.1 HK.out HE7.out (by decide) (hbw1.trans (hb5.mono (by omega)))
          | some t =>
            have htb := HM.out _ _ hlk
            have HE0 := ahid (show itE M k (.far ⟨op, rd, rs1, rs2, is, imm⟩ nm) = farE ⟨op, rd, rs1, rs2, is, imm⟩ (t - k) by simp only [itE, hlk])
            have HW0 := ahid (show itW M k (.far ⟨op, rd, rs1, rs2, is, imm⟩ nm) = farW ⟨op, rd, rs1, rs2, is, imm⟩ (t - k) by simp only [itW, hlk])
            have HAt : Hid (∀ W, Below w.heap.size w W → Calls Tryd.prog 44 #[.agg #[.slice (some ⟨g, 0, none⟩) L.length cap, .slice pm nm' cm], .string nm] W fun e W' => e = .returned (.tuple #[.int .i64 t, .int .i64 0]) ∧ Below W.heap.size W W') := ahid fun W hW => (rat_any W (.slice (some ⟨g, 0, none⟩) L.length cap) (.slice pm nm' cm) M (HMQ.out.keep hW) nm HFP.out.2.2).mono fun e W' hh => by
              rw [show atN M nm = t by unfold atN; rw [hlk]; rfl, show atE M nm = 0 by unfold atE; rw [hlk]; rfl] at hh
              exact hh
            have HLK := ahid hlk
            clear hlk
            have hlb : w.heap.size < W1.heap.size := by omega
            have hlg : g < W1.heap.size := by omega
            go_region_held3 (fun w' => w'.cell? ⟨w.heap.size, 0, none⟩ = some (.slice (some ⟨g, 0, none⟩) L.length cap) ∧ w'.cell? ⟨w.heap.size, 1, none⟩ = some (.slice pm nm' cm) ∧ w'.cell? ⟨g, k * 8 + 7, none⟩ = some (.string nm)) (first | exact ⟨b0, b1, c7⟩ | exact ⟨d0, d1, d7⟩)
              (first | (go_at_call 44; refine (HAt.out _ ?hb).mono ?_; (case hb => exact hbw1.drew); rintro e w5 ⟨rfl, hb50⟩; have hb5 : Below W1.heap.size W1 w5 := ((Below.refl W1.heap.size W1).drew).trans hb50; have d0 := ((acell hb5).1 _ _ hlb).trans b0; have d1 := ((acell hb5).1 _ _ hlb).trans b1; have d7 := ((acell hb5).1 _ _ hlg).trans c7))
            have hwr1 : IntKind.i64.wrap (t - k) = t - k := IntWalk.i64_in _ (by omega)
            have hwr2 : wrap64 (t - k) = t - k := by unfold wrap64; omega
            obtain ⟨x0, x1, x2, x3, x4, x5, xf⟩ := hX.out.keep hb5 (by have := hsz2.out; omega)
            have HB5 := ahid hb5
            have hsz5 := hb5.size
            clear hb5 hb50 b0 b1 c7 d0 d1 d7
            by_cases hr1 : 1048576 ≤ t - k
            · have HO := ahid (HX.out.out (d := t - k) (by omega))
              go_wp2_with fail
              go_ret2
              exact WordsOk.stop HR.out.1 HK.out (HE0.out.trans HO.out) (by decide) (hbw1.trans (HB5.out.mono (by omega)))
            · by_cases hr2 : t - k < -1048576
              · have HO := ahid (HX.out.out (d := t - k) (by omega))
                go_wp2_with fail
                go_ret2
                exact WordsOk.stop HR.out.1 HK.out (HE0.out.trans HO.out) (by decide) (hbw1.trans (HB5.out.mono (by omega)))
              · have HO := ahid (HX.out.in' (d := t - k) (by omega))
                have hE := renc_any ⟨op, rd, rs1, rs2, is, t - k⟩ (HX.out.bd (d := t - k) (by omega))
                have HEz := ahid (HE0.out.trans HO.out.1)
                have HWD := ahid (HW0.out.trans HO.out.2)
                have h32 : wrap32 (t - k) = t - k := by unfold wrap32; omega
                generalize encS ⟨op, rd, rs1, rs2, is, t - (k : Int)⟩ = q at hE HWD
                generalize encE ⟨op, rd, rs1, rs2, is, t - (k : Int)⟩ = qe at hE
                have HE := ahid hE
                clear hE
                go_wp2_with fail
                refine (HE.out _).mono ?_
                rintro e w4 ⟨rfl, hb4⟩
                have hbs : Below (w.heap.size + 1) W1 (w5.setCell ⟨wr.heap.size, 5, none⟩ (.int .i32 (t - k))) := (HB5.out.mono (by omega)).setCell (by show w.heap.size + 1 ≤ wr.heap.size; omega) _
                have hsz6 : (w5.setCell ⟨wr.heap.size, 5, none⟩ (.int .i32 (t - k))).heap.size = w5.heap.size := by simp [World.setCell]
                have hba : Below (w.heap.size + 1) W0 w4 := hb1.trans (hbs.trans (hb4.mono (by omega)))
                have hown2 := ((ownsRow_far hown1 HB5.out hb4 (b := wr.heap.size) (fun kk hk => by have := HR.out.2.1.lt kk hk; omega)))
                have HB3 := ahid (And.intro hba (show w.heap.size + 1 ≤ w4.heap.size by have := hb4.size; omega))
                clear hb4 hba hbs hsz6 x0 x1 x2 x3 x4 x5 xf
                have hi := HII.out.1
                go_wp2_with (first | (at_builtin; refine wpList_append_own _ rfl _ _ 46 rfl (w.heap.size + 1) 30 i0 (.int .u32 0) 1 4 Tryd.underlying46 hi HII.out.2.1 HII.out.2.2.1 HII.out.2.2.2 rfl (by decide) _ k (u32s (wordsL M 0 (L.take k))) rfl (hown2.alloc _) ⟨w4.heap.size, 0, none⟩ 1 1 [.int .u32 q] rfl rfl (cell_one_new _ _ _) (by simp [Value.oneCell']) (by unfold maxLen; omega) (by omega) (by simp; have := HB3.out.2; omega) ?_; intro v' w3 hown3 hgrow3 hnil3))
                obtain ⟨hz3, hl3⟩ := words_step M L k _ HR.out.1 HK.out HEz.out
                have hb3 := (HB3.out.1.alloc HB3.out.2 _).grown hgrow3 (by simp; have := HB3.out.2; omega) (fun i hi => (HR.out.2.1.lt i hi).1)
                have hr3 : w3.ownsRow (w.heap.size + 1) 30 1 v' (k + 1) (u32s (wordsL M 0 (L.take (k + 1)))) := by rw [hl3, HWD.out]; simpa [u32s] using hown3
                clear hl3
                go_roundw
                case rel => exact ⟨k + 1, v', by omega, by go_num, rfl, hz3, hr3, hb3⟩
                case measure => simp [intOf]; omega
      · obtain rfl : k = L.length := by omega
        have hkL : ¬ ((L.length : Int) < L.length) := by omega
        go_wp2_with fail
        go_ret2
        have hz := HR.out.1
        have hr := HR.out.2.1
        rw [List.take_length] at hz hr
        refine ⟨ov, wordsL M 0 L, by rw [hz]; rfl, by rw [hz, if_pos rfl], ⟨by rw [wordsL_len]; exact hr.1, ?_⟩, HWL.out⟩
        rw [wordsL_len]
        rcases hr.2 with h | ⟨g, cap, cur, h1, h2, h3⟩
        · exact .inl h
        · exact .inr ⟨g, cap, cur, h1, by omega, h3⟩
end Go.Proofs.YtfbbodaapkfbdaaDoor
/- Acts on a list: what they leave; the program's acts as one step each. -/
namespace Go.Proofs.YtfbbodaapkfbdaaDoor
open Go.RowKit Go.Maps
set_option linter.unusedVariables false
set_option linter.unusedSimpArgs false
/-- A list that may have gone on. -/
def StepTo (w : World) (p : Nat) (sv : Value) (m : Nat) (K : Nat → Prop) (L' : List It) (M' : List (List UInt8 × Int)) (w' : World) : Prop :=
  ∃ v' K', AsmAt w' p v' m K' L' M' ∧ Only (Own p sv m) w w' ∧ (∀ k, k < w.heap.size → Own p v' m k → Own p sv m k) ∧ (∀ k, k < w.heap.size → K' k → K k)
theorem StepTo.same {w w' : World} {p m : Nat} {sv : Value} {K : Nat → Prop} {L : List It} {M : List (List UInt8 × Int)} (h : AsmAt w p sv m K L M) (hb : Below w.heap.size w w') : StepTo w p sv m K L M w' :=
  ⟨sv, K, h.keep (Only.of_below (S := fun _ => False) hb) (fun _ _ h => h) (fun _ _ h => h), Only.of_below hb, fun _ _ h => h, fun _ _ h => h⟩
theorem StepTo.of_below {w w1 w' : World} {p m : Nat} {sv : Value} {K : Nat → Prop} {L : List It} {M : List (List UInt8 × Int)} (hb : Below w.heap.size w w1) (h : StepTo w1 p sv m K L M w') : StepTo w p sv m K L M w' := by
  obtain ⟨v', K', h1, h2, h3, h4⟩ := h
  exact ⟨v', K', h1, (Only.of_below hb).fresh h2 (fun _ _ h => h), fun k hk => h3 k (Nat.lt_of_lt_of_le hk hb.size), fun k hk => h4 k (Nat.lt_of_lt_of_le hk hb.size)⟩
def putE (l : List Ix) : Int := if ∀ x ∈ l, mayP x then 0 else 2
def putL (L : List It) (l : List Ix) : List It := if ∀ x ∈ l, mayP x then L ++ l.map .put else L
def jumpE (c : Int) : Int := if c ≤ 6 then 0 else 2
def jumpL (L : List It) (op c : Int) (nm : ByteArray) : List It := if c ≤ 6 then L ++ [.far ⟨op, c, 0, 0, true, 0⟩ nm] else L
theorem put_step {w w' : World} {p m : Nat} {sv : Value} {K : Nat → Prop} {L : List It} {M : List (List UInt8 × Int)} {l : List Ix} {e : Ending} (h : AsmAt w p sv m K L M) (hp : PutOk w p sv m K L M l e w') : e = .returned (.int .i64 (putE l)) ∧ StepTo w p sv m K (putL L l) M w' := by
  unfold PutOk at hp
  unfold putE putL
  by_cases hm : ∀ x ∈ l, mayP x
  · rw [if_pos hm] at hp ⊢
    rw [if_pos hm]
    exact hp
  · rw [if_neg hm] at hp ⊢
    rw [if_neg hm]
    exact ⟨hp.1, StepTo.same h hp.2⟩
theorem far_step {w w' : World} {p m : Nat} {sv : Value} {K : Nat → Prop} {L : List It} {M : List (List UInt8 × Int)} {op c : Int} {nm : ByteArray} {e : Ending} (h : AsmAt w p sv m K L M) (hm : mayP ⟨op, c, 0, 0, true, 0⟩ ↔ c ≤ 6) (hp : FarOk w p sv m K L M ⟨op, c, 0, 0, true, 0⟩ nm e w') :
    e = .returned (.int .i64 (jumpE c)) ∧ StepTo w p sv m K (jumpL L op c nm) M w' := by
  unfold FarOk at hp
  unfold jumpE jumpL
  by_cases hc : c ≤ 6
  · rw [if_pos (hm.2 hc)] at hp
    rw [if_pos hc, if_pos hc]
    exact hp
  · rw [if_neg (fun h => hc (hm.1 h))] at hp
    rw [if_neg hc, if_neg hc]
    exact ⟨hp.1, StepTo.same h hp.2⟩
theorem amark_step (w : World) (p m : Nat) (sv : Value) (K : Nat → Prop) (L : List It) (M : List (List UInt8 × Int)) (h : AsmAt w p sv m K L M) (nm : ByteArray) (hs : nm.size ≤ maxLen) (hM : M.length < maxLen) (hL : L.length < 4294967296) :
    Calls Tryd.prog 10 #[.pointer (some ⟨p, 0, none⟩), .string nm] w fun e w' => e = .returned (.int .i64 (markE M nm)) ∧ StepTo w p sv m K L (markM M nm L.length) w' := by
  unfold markE markM
  cases hl : look M nm.data.toList with
  | none =>
    refine (amark_new w p m sv K L M h nm hs hM (by omega) hl).mono ?_
    rintro e w' ⟨rfl, h1, h2⟩
    exact ⟨rfl, sv, K, h1, h2.mono (fun k _ hk => .inr (.inr hk)), fun _ _ h => h, fun _ _ h => h⟩
  | some n =>
    refine (amark_twice w p m sv K L M h nm hs n hl).mono ?_
    rintro e w' ⟨rfl, rfl⟩
    exact ⟨rfl, StepTo.same h (Below.refl _ _)⟩
/-- An act. -/
structure Actx where
  what : Int
  l : List Ix
  nm : ByteArray
  cond : Int
  wd : Int
def Actx.L (x : Actx) (L : List It) : List It :=
  if x.what % 5 = 0 then putL L x.l else if x.what % 5 = 1 then L else if x.what % 5 = 2 then jumpL L 17 x.cond x.nm else if x.what % 5 = 3 then jumpL L 18 0 x.nm else putL L (partsS x.cond x.wd)
def Actx.M (x : Actx) (L : List It) (M : List (List UInt8 × Int)) : List (List UInt8 × Int) := if x.what % 5 = 1 then markM M x.nm L.length else M
def Actx.bd (x : Actx) : Prop := (0 ≤ x.what ∧ x.what < 256) ∧ (0 ≤ x.cond ∧ x.cond < 256) ∧ (0 ≤ x.wd ∧ x.wd < 4294967296) ∧ x.nm.size ≤ maxLen ∧ x.l.length ≤ 1000
/-- The two lists have the same names. -/
def SameNames (M N : List (List UInt8 × Int)) : Prop := ∀ nm, (look M nm).isSome = (look N nm).isSome
theorem SameNames.mark {M N : List (List UInt8 × Int)} (h : SameNames M N) (nm : ByteArray) (a b : Int) : markE M nm = markE N nm ∧ SameNames (markM M nm a) (markM N nm b) := by
  unfold markE markM
  rw [h nm.data.toList]
  refine ⟨rfl, ?_⟩
  cases hN : (look N nm.data.toList).isSome with
  | true => simpa using h
  | false =>
    simp only [Bool.false_eq_true, if_false]
    intro n2
    rw [look_snoc, look_snoc]
    have := h n2
    cases h1 : look M n2 <;> cases h2 : look N n2 <;> rw [h1, h2] at this <;> simp at this ⊢
    split <;> rfl
theorem InsIn.keepO {S : Nat → Prop} {w w' : World} {v : Value} {l : List Ix} (h : InsIn w v l) (o : Only S w w') (hs : 0 < l.length → ∀ k, v.ownBlock = some k → ¬ S k) : InsIn w' v l := by
  obtain ⟨h1, p, c, b, o', rfl, h3, h4⟩ := h
  refine ⟨h1, p, c, b, o', rfl, h3, fun k x hx => (h4 k x hx).keep o ?_⟩
  have hlt : k < l.length := by
    rcases Nat.lt_or_ge k l.length with h | h
    · exact h
    · rw [List.getElem?_eq_none h] at hx; cases hx
  exact hs (by omega) b (by rw [h3 (by omega)]; rfl)
theorem InsIn.lt {w : World} {v : Value} {l : List Ix} (h : InsIn w v l) : 0 < l.length → ∀ k, v.ownBlock = some k → k < w.heap.size := by
  obtain ⟨h1, p, c, b, o', rfl, h3, h4⟩ := h
  intro h0 k hk
  rw [h3 h0] at hk
  cases hk
  exact (h4 0 l[0] (List.getElem?_eq_getElem h0)).lt
/-- What does leaves: on the program's list, and on the document's. -/
def DoesOk (w : World) (p : Nat) (sv : Value) (m : Nat) (K : Nat → Prop) (x : Actx) (L : List It) (M : List (List UInt8 × Int)) (lv mv : Value) (Lq : List It) (Mq : List (List UInt8 × Int)) (e : Ending) (w' : World) : Prop :=
  ∃ lv' mv' b v' K', e = .returned (.tuple #[.agg #[lv', mv'], .bool b]) ∧ (SameNames M Mq → b = true) ∧ AsmAt w' p v' m K' (x.L L) (x.M L M) ∧ Only (Own p sv m) w w' ∧ (∀ k, k < w.heap.size → Own p v' m k → Own p sv m k) ∧ (∀ k, k < w.heap.size → K' k → K k) ∧
    ItemsAt w' lv' (x.L Lq) ∧ MarksAt w' mv' (x.M Lq Mq) ∧ (∀ k, Own p v' m k → lv'.ownBlock ≠ some k ∧ mv'.ownBlock ≠ some k) ∧
    (∀ k, lv'.ownBlock = some k → lv.ownBlock = some k ∨ w.heap.size ≤ k) ∧ (∀ k, mv'.ownBlock = some k → mv.ownBlock = some k ∨ w.heap.size ≤ k)
end Go.Proofs.YtfbbodaapkfbdaaDoor
/- The walk of muntinlaw07.does: an act on a list, and on the document's. -/
namespace Go.Proofs.YtfbbodaapkfbdaaDoor
open Go.RowKit Go.Maps
set_option linter.unusedVariables false
set_option linter.unusedSimpArgs false
/-- An act in a box. -/
structure ActBox (w : World) (b : Nat) (what : Int) (l : Value) (nm : ByteArray) (cond wd : Int) : Prop where
  c0 : w.cell? ⟨b, 0, none⟩ = some (.int .u8 what)
  c1 : w.cell? ⟨b, 1, none⟩ = some l
  c2 : w.cell? ⟨b, 2, none⟩ = some (.string nm)
  c3 : w.cell? ⟨b, 3, none⟩ = some (.int .u8 cond)
  c4 : w.cell? ⟨b, 4, none⟩ = some (.int .u32 wd)
theorem ActBox.new (w : World) (what : Int) (l : Value) (nm : ByteArray) (cond wd : Int) (t : TypeId) : ActBox (w.alloc (.cells #[.int .u8 what, l, .string nm, .int .u8 cond, .int .u32 wd] t)) w.heap.size what l nm cond wd := by
  have h := heap_alloc_new w (.cells #[.int .u8 what, l, .string nm, .int .u8 cond, .int .u32 wd] t)
  exact ⟨by simp only [World.cell?, h]; rfl, by simp only [World.cell?, h]; rfl, by simp only [World.cell?, h]; rfl, by simp only [World.cell?, h]; rfl, by simp only [World.cell?, h]; rfl⟩
theorem ActBox.keep {S : Nat → Prop} {w w' : World} {b : Nat} {what : Int} {l : Value} {nm : ByteArray} {cond wd : Int} (h : ActBox w b what l nm cond wd) (o : Only S w w') (hs : ¬ S b) : ActBox w' b what l nm cond wd := by
  have hl : b < w.heap.size := World.block_lt_of_cell? _ _ h.c0
  exact ⟨(o.cell (p := ⟨b, 0, none⟩) hl hs).trans h.c0, (o.cell (p := ⟨b, 1, none⟩) hl hs).trans h.c1, (o.cell (p := ⟨b, 2, none⟩) hl hs).trans h.c2, (o.cell (p := ⟨b, 3, none⟩) hl hs).trans h.c3, (o.cell (p := ⟨b, 4, none⟩) hl hs).trans h.c4⟩
theorem Only.frozen {S : Nat → Prop} {a b : World} (h : Only S a b) {p : Addr} (hp : p.block < a.heap.size) (hs : ¬ S p.block) : b.frozen? p = a.frozen? p := World.frozen?_of_block (h.block p.block hp hs)
theorem Box2.keepO {S : Nat → Prop} {w w' : World} {b : Nat} {lv mv : Value} (h : Box2 w b lv mv) (o : Only S w w') (hs : ¬ S b) : Box2 w' b lv mv :=
  ⟨(o.cell (p := ⟨b, 0, none⟩) h.lt hs).trans h.c0, (o.cell (p := ⟨b, 1, none⟩) h.lt hs).trans h.c1, (o.frozen (p := ⟨b, 0, none⟩) h.lt hs).trans h.f0, (o.frozen (p := ⟨b, 1, none⟩) h.lt hs).trans h.f1⟩
theorem Box2.size {w : World} {b : Nat} (u v : Value) : ((w.setCell ⟨b, 0, none⟩ u).setCell ⟨b, 1, none⟩ v).heap.size = w.heap.size := by simp [World.setCell]
/-- The boxes of does. -/
structure Boxes (w W : World) (lv mv : Value) (what : Int) (l : Value) (nm : ByteArray) (cond wd : Int) : Prop where
  q : Box2 W w.heap.size lv mv
  x : ActBox W (w.heap.size + 1) what l nm cond wd
  r : Box2 W (w.heap.size + 2) (.slice none 0 0) (.slice none 0 0)
  p : Box2 W (w.heap.size + 3) (.slice none 0 0) (.slice none 0 0)
  size : w.heap.size + 4 ≤ W.heap.size
theorem Boxes.keep {S : Nat → Prop} {w W W' : World} {lv mv : Value} {what : Int} {l : Value} {nm : ByteArray} {cond wd : Int} (h : Boxes w W lv mv what l nm cond wd) (o : Only S W W') (hs : ∀ k, S k → k < w.heap.size ∨ w.heap.size + 4 ≤ k) : Boxes w W' lv mv what l nm cond wd :=
  ⟨h.q.keepO o (fun hk => by have := hs _ hk; omega), h.x.keep o (fun hk => by have := hs _ hk; omega), h.r.keepO o (fun hk => by have := hs _ hk; omega), h.p.keepO o (fun hk => by have := hs _ hk; omega), Nat.le_trans h.size o.size⟩
theorem Boxes.new (w : World) (lv mv : Value) (what : Int) (l : Value) (nm : ByteArray) (cond wd : Int) (t t2 : TypeId) :
    Boxes w ((((w.alloc (.cells #[lv, mv] t)).alloc (.cells #[.int .u8 what, l, .string nm, .int .u8 cond, .int .u32 wd] t2)).alloc (.cells #[.slice none 0 0, .slice none 0 0] t)).alloc (.cells #[.slice none 0 0, .slice none 0 0] t)) lv mv what l nm cond wd := by
  have al : ∀ (W : World) (o : Obj), Only (fun _ => False) W (W.alloc o) := fun W o => (Only.refl _ W).alloc o
  have s1 : (w.alloc (.cells #[lv, mv] t)).heap.size = w.heap.size + 1 := by simp
  have s2 : ((w.alloc (.cells #[lv, mv] t)).alloc (.cells #[.int .u8 what, l, .string nm, .int .u8 cond, .int .u32 wd] t2)).heap.size = w.heap.size + 2 := by simp
  have s3 : (((w.alloc (.cells #[lv, mv] t)).alloc (.cells #[.int .u8 what, l, .string nm, .int .u8 cond, .int .u32 wd] t2)).alloc (.cells #[.slice none 0 0, .slice none 0 0] t)).heap.size = w.heap.size + 3 := by simp
  have h1 := ActBox.new (w.alloc (.cells #[lv, mv] t)) what l nm cond wd t2
  have h2 := Box2.new ((w.alloc (.cells #[lv, mv] t)).alloc (.cells #[.int .u8 what, l, .string nm, .int .u8 cond, .int .u32 wd] t2)) (.slice none 0 0) (.slice none 0 0) t
  have h3 := Box2.new (((w.alloc (.cells #[lv, mv] t)).alloc (.cells #[.int .u8 what, l, .string nm, .int .u8 cond, .int .u32 wd] t2)).alloc (.cells #[.slice none 0 0, .slice none 0 0] t)) (.slice none 0 0) (.slice none 0 0) t
  rw [s1] at h1
  rw [s2] at h2
  rw [s3] at h3
  exact ⟨(((Box2.new w lv mv t).al _).al _).al _, (h1.keep (al _ _) id).keep (al _ _) id, h2.al _, h3, by simp⟩
/-- The end of does. -/
theorem DoesOk.fin {w W1 W2 W3 : World} {p m : Nat} {sv : Value} {K : Nat → Prop} {x : Actx} {L Lq : List It} {M Mq : List (List UInt8 × Int)} {lv mv lv' mv' : Value} {b : Bool} (hb1 : Below w.heap.size w W1) (h4 : w.heap.size + 4 ≤ W1.heap.size) (hA : AsmAt w p sv m K L M) (hKb : ∀ k, K k → k < w.heap.size)
    (hst : StepTo W1 p sv m K (x.L L) (x.M L M) W2) (hd : Below W2.heap.size W2 W3) (hb : SameNames M Mq → b = true) (hi : ItemsAt W3 lv' (x.L Lq)) (hm : MarksAt W3 mv' (x.M Lq Mq))
    (hl1 : ∀ k, lv'.ownBlock = some k → lv.ownBlock = some k ∨ W2.heap.size ≤ k) (hm1 : ∀ k, mv'.ownBlock = some k → mv.ownBlock = some k ∨ W2.heap.size ≤ k)
    (hls : ∀ k, lv.ownBlock = some k → k < w.heap.size ∧ ¬ Own p sv m k) (hms : ∀ k, mv.ownBlock = some k → k < w.heap.size ∧ ¬ Own p sv m k) (u v : Value) :
    DoesOk w p sv m K x L M lv mv Lq Mq (.returned (.tuple #[.agg #[lv', mv'], .bool b])) ((((W3.setCell ⟨w.heap.size + 3, 0, none⟩ u).setCell ⟨w.heap.size + 3, 1, none⟩ v).setCell ⟨w.heap.size + 2, 0, none⟩ lv').setCell ⟨w.heap.size + 2, 1, none⟩ mv') := by
  obtain ⟨v1, K1, g1, g2, g3, g5⟩ := hst
  have hbl := hA.blocks
  have hown : ∀ k, Own p sv m k → k < w.heap.size := by
    rintro k (rfl | h | rfl)
    · exact hbl.1
    · exact hbl.2.2 k h
    · exact hbl.2.1
  have ho4 : Only (fun k => k = w.heap.size + 2 ∨ k = w.heap.size + 3) W3 ((((W3.setCell ⟨w.heap.size + 3, 0, none⟩ u).setCell ⟨w.heap.size + 3, 1, none⟩ v).setCell ⟨w.heap.size + 2, 0, none⟩ lv').setCell ⟨w.heap.size + 2, 1, none⟩ mv') :=
    ((((Only.refl _ W3).setCell (p := ⟨w.heap.size + 3, 0, none⟩) (.inr rfl) u).setCell (p := ⟨w.heap.size + 3, 1, none⟩) (.inr rfl) v).setCell (p := ⟨w.heap.size + 2, 0, none⟩) (.inl rfl) lv').setCell (p := ⟨w.heap.size + 2, 1, none⟩) (.inl rfl) mv'
  have hsz2 : W1.heap.size ≤ W2.heap.size := g2.size
  have hsz3 := hd.size
  have hnew : ∀ k, Own p v1 m k → k < w.heap.size ∧ Own p sv m k ∨ W1.heap.size ≤ k ∧ k < W2.heap.size := by
    intro k hk
    have hbl2 := g1.blocks
    have hk2 : k < W2.heap.size := by
      rcases hk with rfl | h | rfl
      · exact hbl2.1
      · exact hbl2.2.2 k h
      · exact hbl2.2.1
    rcases Nat.lt_or_ge k W1.heap.size with h | h
    · exact .inl ⟨hown k (g3 k h hk), g3 k h hk⟩
    · exact .inr ⟨h, hk2⟩
  have hK1 : ∀ k, K1 k → k < w.heap.size ∨ W1.heap.size ≤ k := by
    intro k hk
    rcases Nat.lt_or_ge k W1.heap.size with h | h
    · exact .inl (hKb k (g5 k h hk))
    · exact .inr h
  refine ⟨lv', mv', b, v1, K1, rfl, hb, ?_, ?_, ?_, ?_, ?_, ?_, ?_, ?_, ?_⟩
  · refine (g1.keep (Only.of_below (S := fun _ => False) hd) (fun _ _ h => h) (fun _ _ h => h)).keep ho4 ?_ ?_
    · intro k hk e
      have := hnew k hk; omega
    · intro k hk e
      have := hK1 k hk; omega
  · have o1 : Only (Own p sv m) w W2 := (Only.of_below hb1).fresh g2 (fun _ _ h => h)
    have o2 : Only (Own p sv m) w W3 := o1.fresh (Only.of_below (S := fun _ => False) hd) (fun _ _ h => h.elim)
    exact o2.fresh ho4 (fun k hk e => by omega)
  · intro k hk ho
    exact g3 k (by omega) ho
  · intro k hk ho
    exact g5 k (by omega) ho
  · refine hi.keepO ho4 (fun k hk e => ?_)
    rcases hl1 k hk with h | h
    · have := (hls k h).1; omega
    · omega
  · refine hm.keepO ho4 (fun k hk e => ?_)
    rcases hm1 k hk with h | h
    · have := (hms k h).1; omega
    · omega
  · intro k hk
    have hn := hnew k hk
    refine ⟨fun e => ?_, fun e => ?_⟩
    · rcases hl1 k e with h | h
      · have h2 := hls k h
        rcases hn with hn | hn
        · exact h2.2 hn.2
        · omega
      · omega
    · rcases hm1 k e with h | h
      · have h2 := hms k h
        rcases hn with hn | hn
        · exact h2.2 hn.2
        · omega
      · omega
  · intro k hk
    rcases hl1 k hk with h | h
    · exact .inl h
    · exact .inr (by omega)
  · intro k hk
    rcases hm1 k hk with h | h
    · exact .inl h
    · exact .inr (by omega)
theorem rfl_L0 (x : Actx) (hk : x.what % 5 = 0) : ∀ L M, x.L L = putL L x.l ∧ x.M L M = M := fun L M => by unfold Actx.L Actx.M; rw [hk]; exact ⟨rfl, rfl⟩
theorem rfl_L1 (x : Actx) (hk : x.what % 5 = 1) : ∀ L M, x.L L = L ∧ x.M L M = markM M x.nm L.length := fun L M => by unfold Actx.L Actx.M; rw [hk]; exact ⟨rfl, rfl⟩
theorem rfl_L2 (x : Actx) (hk : x.what % 5 = 2) : ∀ L M, x.L L = jumpL L 17 x.cond x.nm ∧ x.M L M = M := fun L M => by unfold Actx.L Actx.M; rw [hk]; exact ⟨rfl, rfl⟩
theorem rfl_L3 (x : Actx) (hk : x.what % 5 = 3) : ∀ L M, x.L L = jumpL L 18 0 x.nm ∧ x.M L M = M := fun L M => by unfold Actx.L Actx.M; rw [hk]; exact ⟨rfl, rfl⟩
theorem rfl_L4 (x : Actx) (hk : x.what % 5 = 4) : ∀ L M, x.L L = putL L (partsS x.cond x.wd) ∧ x.M L M = M := fun L M => by unfold Actx.L Actx.M; rw [hk]; exact ⟨rfl, rfl⟩
end Go.Proofs.YtfbbodaapkfbdaaDoor
/- The walks of muntinlaw07.same and great. -/
namespace Go.Proofs.YtfbbodaapkfbdaaDoor
open Go.RowKit Go.Maps
set_option linter.unusedVariables false
set_option linter.unusedSimpArgs false
theorem abt {a b c : World} (h : Below a.heap.size a b) (k : Below b.heap.size b c) : Below a.heap.size a c := h.trans (k.mono h.size)
/-- What is known of a list and the document's. -/
structure Sized (L : List It) (M : List (List UInt8 × Int)) : Prop where
  far : FarL L
  put : PutL L
  len : L.length < 4294967296
  mlen : M.length < 4294967296
  marks : ∀ nm t, look M nm = some t → 0 ≤ t ∧ t < 4294967296
/-- An act that lies at a place. -/
structure Act7At (w : World) (b o : Nat) (x : Actx) (xv : Value) : Prop where
  c0 : w.cell? ⟨b, o, none⟩ = some (.int .u8 x.what)
  c1 : w.cell? ⟨b, o + 1, none⟩ = some xv
  c2 : w.cell? ⟨b, o + 2, none⟩ = some (.string x.nm)
  c3 : w.cell? ⟨b, o + 3, none⟩ = some (.int .u8 x.cond)
  c4 : w.cell? ⟨b, o + 4, none⟩ = some (.int .u32 x.wd)
  b0 : 0 ≤ x.what ∧ x.what < 256
  b1 : 0 ≤ x.cond ∧ x.cond < 256
  b2 : 0 ≤ x.wd ∧ x.wd < 4294967296
  nm : x.nm.size ≤ maxLen
  ins : InsIn w xv x.l
theorem Act7At.keep {a b : World} {k o : Nat} {x : Actx} {xv : Value} (h : Act7At a k o x xv) (hb : Below a.heap.size a b) : Act7At b k o x xv := by
  have hl := World.block_lt_of_cell? _ _ h.c0
  exact ⟨(hb.cell (p := ⟨k, o, none⟩) hl).trans h.c0, (hb.cell (p := ⟨k, o + 1, none⟩) hl).trans h.c1, (hb.cell (p := ⟨k, o + 2, none⟩) hl).trans h.c2, (hb.cell (p := ⟨k, o + 3, none⟩) hl).trans h.c3, (hb.cell (p := ⟨k, o + 4, none⟩) hl).trans h.c4, h.b0, h.b1, h.b2, h.nm, h.ins.keepb hb⟩
/-- A slice of acts, as it came in. -/
def ActsIn (w : World) (v : Value) (l : List Actx) : Prop :=
  l.length ≤ 140737488355328 ∧ (∀ x ∈ l, x.l.length ≤ 140737488355328 ∧ x.nm.size ≤ 140737488355328) ∧ ∃ p c b o, v = .slice p l.length c ∧ (0 < l.length → p = some ⟨b, o, none⟩) ∧ ∀ k x, l[k]? = some x → ∃ xv, Act7At w b (o + k * 5) x xv
def agreatN (l : List Actx) : Nat := (l.map fun x => x.l.length + x.nm.size).sum
theorem agreatN_take (l : List Actx) (k : Nat) (x : Actx) (h : l[k]? = some x) : agreatN (l.take (k + 1)) = agreatN (l.take k) + (x.l.length + x.nm.size) := by
  rw [(take_get l k x h).1]; simp [agreatN]
theorem agreatN_le (l : List Actx) (h : ∀ x ∈ l, x.l.length ≤ 140737488355328 ∧ x.nm.size ≤ 140737488355328) : agreatN l ≤ l.length * 281474976710656 := by
  induction l with
  | nil => simp [agreatN]
  | cons x l ih =>
    have h1 := h x (by simp)
    have h2 := ih (fun y hy => h y (by simp [hy]))
    simp only [agreatN, List.map_cons, List.sum_cons, List.length_cons] at h2 ⊢
    omega
theorem agreatN_mem (l : List Actx) (x : Actx) (h : x ∈ l) : x.l.length + x.nm.size ≤ agreatN l := by
  induction l with
  | nil => simp at h
  | cons y l ih =>
    simp only [agreatN, List.map_cons, List.sum_cons] at ih ⊢
    rcases List.mem_cons.1 h with rfl | h
    · omega
    · have := ih h; omega
def greatB (l : List Actx) : Bool := decide (60 < l.length ∨ 1000 < agreatN l)
end Go.Proofs.YtfbbodaapkfbdaaDoor
/- The walk of muntinlaw07.head: lists whose words the document fixes; three lists side by side. -/
namespace Go.Proofs.YtfbbodaapkfbdaaDoor
open Go.RowKit Go.Maps
set_option linter.unusedVariables false
set_option linter.unusedSimpArgs false
/-- A list whose blocks are of S, none of them elder than w0. -/
structure Lst (w0 : Nat) (w : World) (p : Nat) (S : Nat → Prop) (L : List It) (M : List (List UInt8 × Int)) : Prop where
  ex : ∃ sv m K, AsmAt w p sv m K L M ∧ (∀ k, Own p sv m k → S k) ∧ (∀ k, K k → S k)
  lo : ∀ k, S k → w0 ≤ k ∧ k < w.heap.size
theorem AsmAt.ownlt {w : World} {p m : Nat} {sv : Value} {K : Nat → Prop} {L : List It} {M : List (List UInt8 × Int)} (h : AsmAt w p sv m K L M) : ∀ k, Own p sv m k → k < w.heap.size := by
  have hbl := h.blocks
  rintro k (rfl | h | rfl)
  · exact hbl.1
  · exact hbl.2.2 k h
  · exact hbl.2.1
theorem Lst.keep {w0 : Nat} {w w2 : World} {p : Nat} {S T : Nat → Prop} {L : List It} {M : List (List UInt8 × Int)} (h : Lst w0 w p T L M) (o : Only S w w2) (hd : ∀ k, T k → ¬ S k) : Lst w0 w2 p T L M := by
  obtain ⟨⟨sv, m, K, hA, hO, hK⟩, hlo⟩ := h
  exact ⟨⟨sv, m, K, hA.keep o (fun k hk => hd k (hO k hk)) (fun k hk => hd k (hK k hk)), hO, hK⟩, fun k hk => ⟨(hlo k hk).1, Nat.lt_of_lt_of_le (hlo k hk).2 o.size⟩⟩
theorem Lst.keepb {w0 : Nat} {w w2 : World} {p : Nat} {T : Nat → Prop} {L : List It} {M : List (List UInt8 × Int)} (h : Lst w0 w p T L M) (hb : Below w.heap.size w w2) : Lst w0 w2 p T L M := h.keep (Only.of_below (S := fun _ => False) hb) (fun _ _ h => h)
theorem Lst.to {w0 : Nat} {w w2 : World} {p : Nat} {S : Nat → Prop} {L L' : List It} {M M' : List (List UInt8 × Int)} {sv : Value} {m : Nat} {K : Nat → Prop} (h : Lst w0 w p S L M) (hw : w0 ≤ w.heap.size) (hO : ∀ k, Own p sv m k → S k) (hK : ∀ k, K k → S k) (hst : StepTo w p sv m K L' M' w2) :
    ∃ S', Lst w0 w2 p S' L' M' ∧ Only S w w2 ∧ (∀ k, S' k → S k ∨ w.heap.size ≤ k) := by
  obtain ⟨v', K', g1, g2, g3, g4⟩ := hst
  refine ⟨fun k => (Own p v' m k ∨ K' k) ∧ k < w2.heap.size, ⟨⟨v', m, _, g1.trim, fun k hk => ⟨.inl hk, g1.ownlt k hk⟩, fun k hk => ⟨.inr hk.1, hk.2⟩⟩, ?_⟩, g2.mono (fun k _ hk => hO k hk), ?_⟩
  · intro k hk
    refine ⟨?_, hk.2⟩
    rcases Nat.lt_or_ge k w.heap.size with hl | hl
    · rcases hk.1 with h1 | h1
      · exact (h.lo k (hO k (g3 k hl h1))).1
      · exact (h.lo k (hK k (g4 k hl h1))).1
    · omega
  · intro k hk
    rcases Nat.lt_or_ge k w.heap.size with hl | hl
    · rcases hk.1 with h1 | h1
      · exact .inl (hO k (g3 k hl h1))
      · exact .inl (hK k (g4 k hl h1))
    · exact .inr hl
theorem dis_step {w : World} {S S' T : Nat → Prop} (hd : ∀ k, S k → ¬ T k) (hS : ∀ k, S' k → S k ∨ w.heap.size ≤ k) (hT : ∀ k, T k → k < w.heap.size) : ∀ k, S' k → ¬ T k := by
  intro k hk ht
  rcases hS k hk with h | h
  · exact hd k h ht
  · have := hT k ht; omega
theorem dis_comm {S T : Nat → Prop} (hd : ∀ k, S k → ¬ T k) : ∀ k, T k → ¬ S k := fun k ht hs => hd k hs ht
theorem Only.lower {S : Nat → Prop} {w0 w w2 : World} (hb : Below w0.heap.size w0 w) (o : Only S w w2) (hs : ∀ k, S k → w0.heap.size ≤ k) : Below w0.heap.size w0 w2 :=
  hb.trans (o.below hb.size (fun k hk hh => by have := hs k hh; omega))
theorem new_lst (w0 w : World) (hb : Below w0.heap.size w0 w) : Calls Tryd.prog 8 #[] w fun e w' => ∃ p S, e = .returned (.pointer (some ⟨p, 0, none⟩)) ∧ Lst w0.heap.size w' p S [] [] ∧ (∀ k, S k → w.heap.size ≤ k) ∧ Below w.heap.size w w' := by
  refine (anew_any w).mono ?_
  rintro e w' ⟨p, m, rfl, hp, hm, hA, hB⟩
  have h1 := hb.size
  have h2 := hB.size
  refine ⟨p, fun k => Own p (.slice none 0 0) m k, rfl, ⟨⟨_, m, _, hA, fun k h => h, fun k h => h.elim⟩, fun k hk => ⟨?_, hA.ownlt k hk⟩⟩, ?_, hB⟩
  · rcases hk with rfl | h | rfl
    · omega
    · simp [Value.ownBlock] at h
    · omega
  · rintro k (rfl | h | rfl)
    · exact hp
    · simp [Value.ownBlock] at h
    · exact hm
def La1 : List It := putL [] (partsS 1 5)
def La2 : List It := putL La1 (partsS 1 4294967295)
def La3 : List It := putL La2 (partsS 1 305419896)
def La4 : List It := putL La3 (partsS 1 32768)
def nmx : ByteArray := ⟨#[120]⟩
def nmy : ByteArray := ⟨#[121]⟩
def Lb1 : List It := jumpL [] 17 0 nmx
def Lb2 : List It := putL Lb1 [⟨32, 0, 0, 0, false, 0⟩]
def Mb1 : List (List UInt8 × Int) := markM [] nmx Lb2.length
def Mb2 : List (List UInt8 × Int) := markM Mb1 nmx Lb2.length
def Lc1 : List It := jumpL [] 18 0 nmy
theorem la_len : La1.length = 1 ∧ La2.length = 2 ∧ La3.length = 4 ∧ La4.length = 5 ∧ Lb1.length = 1 ∧ Lb2.length = 2 ∧ Lc1.length = 1 ∧ Mb1.length = 1 ∧ Mb2.length = 1 := by decide
theorem la_words : wordsE [] 0 La4 = 0 ∧ wordsL [] 0 La4 = [69238789, 69271551, 1008879242, 471959160, 1008730128] := by decide
theorem lb_words : wordsE Mb2 0 Lb2 = 0 ∧ wordsL Mb2 0 Lb2 = [1140850690, 2147483648] := by decide
theorem lc_words : wordsE [] 0 Lc1 = 7 := by decide
theorem lb_marks : markE [] nmx = 0 ∧ markE Mb1 nmx = 9 ∧ atN Mb2 nmx = 2 ∧ atE Mb2 nmx = 0 := by decide
theorem look_nil (nm : List UInt8) (t : Int) : look [] nm = some t → 0 ≤ t ∧ t < 4294967296 := by intro h; cases h
theorem mb_look (nm : List UInt8) (t : Int) : look Mb2 nm = some t → 0 ≤ t ∧ t < 4294967296 := by
  have h : Mb2 = [([120], 2)] := by decide
  rw [h]
  unfold look
  intro h2
  simp only [List.find?_cons, List.find?_nil] at h2
  split at h2
  · cases h2; exact ⟨by decide, by decide⟩
  · cases h2
/-- The table, and that it lies below. -/
structure TabLo (w0 : Nat) (w : World) : Prop where
  tab : Tab w
  lo : 0 < w0
theorem TabLo.start {w0 w : World} (h : Tab w0) (hb : Below w0.heap.size w0 w) : TabLo w0.heap.size w := ⟨h.keep hb, World.block_lt_of_cell? _ _ (h 0 (by omega))⟩
theorem TabLo.keepO {w0 : Nat} {S : Nat → Prop} {w w2 : World} (h : TabLo w0 w) (o : Only S w w2) (hs : ∀ k, S k → w0 ≤ k) : TabLo w0 w2 :=
  ⟨fun i hi => (o.cell (p := ⟨0, i, none⟩) (World.block_lt_of_cell? _ _ (h.tab i hi)) (fun hk => by have h1 : w0 ≤ 0 := hs _ hk; have := h.lo; omega)).trans (h.tab i hi), h.lo⟩
theorem TabLo.keepb {w0 : Nat} {w w2 : World} (h : TabLo w0 w) (hb : Below w.heap.size w w2) : TabLo w0 w2 := ⟨h.tab.keep hb, h.lo⟩
end Go.Proofs.YtfbbodaapkfbdaaDoor
