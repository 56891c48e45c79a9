/- The document's list (muntinref07): Mark; Jump whatever it is given. -/
import Derived.Test.YtimhpohlaagbpaaDoorAsmRJump
namespace Go.Proofs.YtimhpohlaagbpaaDoor
open Go.RowKit Go.Maps
set_option linter.unusedVariables false
set_option linter.unusedSimpArgs false
theorem rjump_any (w : World) (lv : Value) (pm : Option Addr) (nm' cm : Nat) (L : List It) (hq : ItemsAt w lv L) (op c : Int) (ho : 0 ≤ op ∧ op < 256) (hc0 : 0 ≤ c) (nm : ByteArray) (hL : L.length < 4294967296) :
    Calls Tryd.prog 26 #[.agg #[lv, .slice pm nm' cm], .int .u8 op, .int .u8 c, .string nm] w (RJumpOk w lv (.slice pm nm' cm) L op c nm) := by
  by_cases hc : c ≤ 6
  · exact rjump_yes w lv pm nm' cm L hq op c ho hc0 hc nm hL
  · exact rjump_no w lv pm nm' cm L hq op c hc nm
theorem infol : (Tryd.prog.info? 82).map (fun i => (i.zero, i.size, i.bytes)) = some (some (.agg #[.string ⟨#[]⟩, .int .i64 0]), 2, 24) := by kernel_rfl
theorem marks_one (M : List (List UInt8 × Int)) : ∀ u ∈ M.flatMap markC, u.oneCell' = true := by
  intro u hu
  obtain ⟨e, _, h⟩ := List.mem_flatMap.1 hu
  simp [markC] at h
  rcases h with rfl | rfl <;> simp [Value.oneCell']
/-- The marks behind a mark; the answer. -/
def markM (M : List (List UInt8 × Int)) (nm : ByteArray) (n : Int) : List (List UInt8 × Int) := if (look M nm.data.toList).isSome = true then M else M ++ [(nm.data.toList, n)]
def markE (M : List (List UInt8 × Int)) (nm : ByteArray) : Int := if (look M nm.data.toList).isSome = true then 9 else 0
/-- What Mark of the document leaves. -/
def RMarkOk (w : World) (lv mv : Value) (M : List (List UInt8 × Int)) (nm : ByteArray) (n : Int) (e : Ending) (w' : World) : Prop :=
  ∃ mv', e = .returned (.tuple #[.agg #[lv, mv'], .int .i64 (markE M nm)]) ∧ MarksAt w' mv' (markM M nm n) ∧ Below w.heap.size w w' ∧ ∀ k, mv'.ownBlock = some k → mv.ownBlock = some k ∨ w.heap.size ≤ k
theorem RMarkOk.no {w w' : World} {lv mv : Value} {M : List (List UInt8 × Int)} {nm : ByteArray} {n : Int} (h : (look M nm.data.toList).isSome = true) (hi : MarksAt w' mv M) (hb : Below w.heap.size w w') : RMarkOk w lv mv M nm n (.returned (.tuple #[.agg #[lv, mv], .int .i64 9])) w' :=
  ⟨mv, by unfold markE; rw [if_pos h], by unfold markM; rw [if_pos h]; exact hi, hb, fun k e => .inl e⟩
theorem RMarkOk.yes {w w' : World} {lv mv mv' : Value} {M : List (List UInt8 × Int)} {nm : ByteArray} {n : Int} (h : ¬ (look M nm.data.toList).isSome = true) (hi : MarksAt w' mv' (M ++ [(nm.data.toList, n)])) (hb : Below w.heap.size w w') (hk : ∀ k, mv'.ownBlock = some k → w.heap.size ≤ k) : RMarkOk w lv mv M nm n (.returned (.tuple #[.agg #[lv, mv'], .int .i64 0])) w' :=
  ⟨mv', by unfold markE; rw [if_neg h], by unfold markM; rw [if_neg h]; exact hi, hb, fun k e => .inr (hk k e)⟩
theorem marks_fin {w2 : World} {B b n : Nat} {e : TypeId} {v : Value} {cs : List Value} {M : List (List UInt8 × Int)} (ho : w2.ownsRow B e 2 v n cs) (hn : n = M.length) (hcs : cs = M.flatMap markC) (hb : b < B) (x y : Value) : MarksAt ((w2.setCell ⟨b, 0, none⟩ x).setCell ⟨b, 1, none⟩ y) v M := by
  subst hn; subst hcs; exact row_fin ho hb x y
set_option maxRecDepth 100000 in
set_option maxHeartbeats 2000000 in
theorem rmark_no (w : World) (pl : Option Addr) (nl cl : Nat) (mv : Value) (M : List (List UInt8 × Int)) (hq : MarksAt w mv M) (nm : ByteArray) (hM : M.length ≤ maxLen) (hlk : (look M nm.data.toList).isSome = true) :
    Calls Tryd.prog 25 #[.agg #[.slice pl nl cl, mv], .string nm] w (RMarkOk w (.slice pl nl cl) mv M nm nl) := by
  obtain ⟨pm, nm', cm, rfl⟩ := hq.shape
  have HQ := ahid hq
  clear hq
  have hle0 : ((w.alloc (.cells #[.slice pl nl cl, (.slice pm nm' cm)] 33)).alloc (.cells #[.slice none 0 0, .slice none 0 0] 33)).heap.size = w.heap.size + 2 := by simp
  have hR : Box2 ((w.alloc (.cells #[.slice pl nl cl, (.slice pm nm' cm)] 33)).alloc (.cells #[.slice none 0 0, .slice none 0 0] 33)) (w.heap.size + 1) (.slice none 0 0) (.slice none 0 0) := by
    have := Box2.new (w.alloc (.cells #[.slice pl nl cl, (.slice pm nm' cm)] 33)) (.slice none 0 0) (.slice none 0 0) 33
    rw [show (w.alloc (.cells #[.slice pl nl cl, (.slice pm nm' cm)] 33)).heap.size = w.heap.size + 1 by simp] at this
    exact this
  have HB0 := ahid ((Box2.new w (.slice pl nl cl) (.slice pm nm' cm) 33).al (.cells #[.slice none 0 0, .slice none 0 0] 33))
  have hbw : Below w.heap.size w ((w.alloc (.cells #[.slice pl nl cl, (.slice pm nm' cm)] 33)).alloc (.cells #[.slice none 0 0, .slice none 0 0] 33)) := ((Below.refl _ _).alloc (Nat.le_refl _) _).alloc (by simp) _
  have HA := ahid (rat_any ((w.alloc (.cells #[.slice pl nl cl, (.slice pm nm' cm)] 33)).alloc (.cells #[.slice none 0 0, .slice none 0 0] 33)) (.slice pl nl cl) (.slice pm nm' cm) M (HQ.out.keep hbw) nm hM)
  have HR0 := ahid hR
  have HBW0 := ahid hbw
  have HSZ := ahid hle0
  clear hR hbw hle0
  go_enter Tryd.func25, Tryd.ntmps25
  go_wp2_with fail
  generalize ((w.alloc (.cells #[.slice pl nl cl, (.slice pm nm' cm)] 33)).alloc (.cells #[.slice none 0 0, .slice none 0 0] 33)) = W1 at *
  refine HA.out.mono ?_
  rw [show atE M nm = 0 from by unfold atE; first | rw [if_pos hlk] | rw [if_neg hlk]]
  rintro e W ⟨rfl, hb⟩
  replace HB0 := ahid (HB0.out.keepB hb HB0.out.lt)
  replace HR0 := ahid (HR0.out.keepB hb HR0.out.lt)
  have HBW := ahid (HBW0.out.trans (hb.mono HBW0.out.size))
  have HLE := ahid (show w.heap.size + 2 ≤ W.heap.size by have := hb.size; have := HSZ.out; omega)
  have HLK := ahid hlk
  clear hb HA HBW0 hlk
  generalize atN M nm = na
  obtain ⟨b0, b1, bf0, bf1⟩ := HB0.out
  obtain ⟨r0, r1, rf0, rf1⟩ := HR0.out
  go_wp2_with fail
  have hS := (Box2.mk r0 r1 rf0 rf1).set (.slice pl nl cl) (.slice pm nm' cm)
  have hbel : Below w.heap.size w ((W.setCell ⟨w.heap.size + 1, 0, none⟩ (.slice pl nl cl)).setCell ⟨w.heap.size + 1, 1, none⟩ (.slice pm nm' cm)) := (HBW.out.setCell (by simp) _).setCell (by simp) _
  have hfin := RMarkOk.no (lv := .slice pl nl cl) (n := nl) HLK.out (HQ.out.keep hbel) hbel
  clear hbel b0 b1 bf0 bf1 r0 r1 rf0 rf1 HB0 HR0
  generalize (W.setCell ⟨w.heap.size + 1, 0, none⟩ (.slice pl nl cl)).setCell ⟨w.heap.size + 1, 1, none⟩ (.slice pm nm' cm) = W9 at *
  obtain ⟨s0, s1, _, _⟩ := hS
  refine bodyPost_ret (by simp [results, Tryd.results25, go_sem, s0, s1]; try rfl) rfl ?_
  exact hfin
set_option maxRecDepth 100000 in
set_option maxHeartbeats 4000000 in
theorem rmark_nil (w : World) (pl : Option Addr) (nl cl : Nat)  (M : List (List UInt8 × Int)) (hq : MarksAt w (.slice none 0 0) M) (nm : ByteArray) (hM : M.length ≤ maxLen) (hM2 : M.length < 4294967296) (hlk : ¬ (look M nm.data.toList).isSome = true) (hl0 : M.length = 0) :
    Calls Tryd.prog 25 #[.agg #[.slice pl nl cl, (.slice none 0 0)], .string nm] w (RMarkOk w (.slice pl nl cl) (.slice none 0 0) M nm nl) := by
  have HQ := ahid hq
  have HL0 := ahid hl0
  clear hl0 hq
  obtain ⟨i0, hi, hz0, hz1, hz2⟩ := info_parts infol
  have HII := ahid (And.intro hi (And.intro hz0 (And.intro hz1 hz2)))
  clear hi hz0 hz1 hz2
  have hle0 : ((w.alloc (.cells #[.slice pl nl cl, (.slice none 0 0)] 33)).alloc (.cells #[.slice none 0 0, .slice none 0 0] 33)).heap.size = w.heap.size + 2 := by simp
  have hR : Box2 ((w.alloc (.cells #[.slice pl nl cl, (.slice none 0 0)] 33)).alloc (.cells #[.slice none 0 0, .slice none 0 0] 33)) (w.heap.size + 1) (.slice none 0 0) (.slice none 0 0) := by
    have := Box2.new (w.alloc (.cells #[.slice pl nl cl, (.slice none 0 0)] 33)) (.slice none 0 0) (.slice none 0 0) 33
    rw [show (w.alloc (.cells #[.slice pl nl cl, (.slice none 0 0)] 33)).heap.size = w.heap.size + 1 by simp] at this
    exact this
  have HB0 := ahid ((Box2.new w (.slice pl nl cl) (.slice none 0 0) 33).al (.cells #[.slice none 0 0, .slice none 0 0] 33))
  have hbw : Below w.heap.size w ((w.alloc (.cells #[.slice pl nl cl, (.slice none 0 0)] 33)).alloc (.cells #[.slice none 0 0, .slice none 0 0] 33)) := ((Below.refl _ _).alloc (Nat.le_refl _) _).alloc (by simp) _
  have HA := ahid (rat_any ((w.alloc (.cells #[.slice pl nl cl, (.slice none 0 0)] 33)).alloc (.cells #[.slice none 0 0, .slice none 0 0] 33)) (.slice pl nl cl) (.slice none 0 0) M (HQ.out.keep hbw) nm hM)
  have HR0 := ahid hR
  have HBW0 := ahid hbw
  have HSZ := ahid hle0
  clear hR hbw hle0
  go_enter Tryd.func25, Tryd.ntmps25
  go_wp2_with fail
  generalize ((w.alloc (.cells #[.slice pl nl cl, (.slice none 0 0)] 33)).alloc (.cells #[.slice none 0 0, .slice none 0 0] 33)) = W1 at *
  refine HA.out.mono ?_
  rw [show atE M nm = 7 from by unfold atE; first | rw [if_pos hlk] | rw [if_neg hlk]]
  rintro e W ⟨rfl, hb⟩
  replace HB0 := ahid (HB0.out.keepB hb HB0.out.lt)
  replace HR0 := ahid (HR0.out.keepB hb HR0.out.lt)
  have HBW := ahid (HBW0.out.trans (hb.mono HBW0.out.size))
  have HLE := ahid (show w.heap.size + 2 ≤ W.heap.size by have := hb.size; have := HSZ.out; omega)
  have HLK := ahid hlk
  clear hb HA HBW0 hlk
  generalize atN M nm = na
  go_wp2_with fail
  have HKS := ahid (show ∀ w', Below (w.heap.size + 2) W w' → w'.cell? ⟨w.heap.size, 0, none⟩ = some (.slice pl nl cl) ∧ w'.cell? ⟨w.heap.size, 1, none⟩ = some (.slice none 0 0) from fun w' hb => by
    have h1 := HB0.out.keepB hb (by omega)
    exact ⟨h1.c0, h1.c1⟩)
  have HKS2 := ahid (show ∀ w' u v, Below (w.heap.size + 2) W w' → (fun w' => w'.cell? ⟨w.heap.size, 0, none⟩ = some (.slice pl nl cl) ∧ w'.cell? ⟨w.heap.size, 1, none⟩ = some (.slice none 0 0)) ((w'.setCell ⟨w.heap.size + 1, 0, none⟩ u).setCell ⟨w.heap.size + 1, 1, none⟩ v) from fun w' u v hb => by
    have h1 := HKS.out w' hb
    have k : ∀ (b i : Nat) (x : Value), b ≠ w.heap.size + 1 → w'.cell? ⟨b, i, none⟩ = some x → ((w'.setCell ⟨w.heap.size + 1, 0, none⟩ u).setCell ⟨w.heap.size + 1, 1, none⟩ v).cell? ⟨b, i, none⟩ = some x := fun b i x hne h => ((World.cell?_setCell_far _ _ _ _ (fun e => hne e.symm)).trans (World.cell?_setCell_far _ _ _ _ (fun e => hne e.symm))).trans h
    exact ⟨k _ _ _ (by omega) h1.1, k _ _ _ (by omega) h1.2⟩)
  have hi := HII.out.1
  have hbl0 := Below.refl (w.heap.size + 2) W
  have hle : w.heap.size + 2 ≤ W.heap.size := HLE.out
  have HW1 : Hid ((W.alloc (.cells #[] 82)).ownsRow (w.heap.size + 2) 82 2 (.slice (some ⟨W.heap.size, 0, none⟩) 0 0) 0 []) := ahid (World.ownsRow_made W #[] 0 hle (Nat.zero_le _) rfl)
  have HW2 : Hid (((W.alloc (.cells #[.string nm, .int .i64 nl] 82)).alloc (.cells #[] 82)).ownsRow (w.heap.size + 2) 82 2 (.slice (some ⟨W.heap.size + 1, 0, none⟩) 0 0) 0 []) := by
    have h := World.ownsRow_made (base := w.heap.size + 2) (size := 2) (e := 82) (W.alloc (.cells #[.string nm, .int .i64 nl] 82)) #[] 0 (by simp; omega) (Nat.zero_le _) rfl
    rw [show (W.alloc (.cells #[.string nm, .int .i64 nl] 82)).heap.size = W.heap.size + 1 by simp] at h
    exact ahid h
  have HN1 : Hid (∀ (j : Nat) u, [.string nm, .int .i64 nl][j]? = some u → ((W.alloc (.cells #[] 82)).alloc (.cells #[.string nm, .int .i64 nl] 82)).drew.cell? ((⟨W.heap.size + 1, 0, none⟩ : Addr).add j) = some u) := by
    have h := cells_new (W.alloc (.cells #[] 82)) #[.string nm, .int .i64 nl] 82
    rw [show (W.alloc (.cells #[] 82)).heap.size = W.heap.size + 1 by simp] at h
    exact ahid h
  have HN2 : Hid (∀ (j : Nat) u, [.string nm, .int .i64 nl][j]? = some u → ((W.alloc (.cells #[.string nm, .int .i64 nl] 82)).alloc (.cells #[] 82)).drew.cell? ((⟨W.heap.size, 0, none⟩ : Addr).add j) = some u) := ahid fun j u hu => Lib.cell?_alloc_some _ (cells_new W #[.string nm, .int .i64 nl] 82 j u hu)
  go_region_held3 (fun w' => w'.cell? ⟨w.heap.size, 0, none⟩ = some (.slice pl nl cl) ∧ w'.cell? ⟨w.heap.size, 1, none⟩ = some (.slice none 0 0)) (first | (refine HKS.out _ ?_; go_grown; done) | (refine HKS2.out _ _ _ ?_; go_grown; done))
    (first
      | (refine step_append_none _ (by rfl) (.tmp 19) (.tmp 21) 31 (by rfl) (w.heap.size + 2) 82 i0 2 Tryd.underlying31 hi (.slice (some ⟨W.heap.size, 0, none⟩) 0 0) 0 [] (by rfl) HW1.out.drew (by rfl) ?_)
      | (refine step_append_none _ (by rfl) (.tmp 19) (.tmp 21) 31 (by rfl) (w.heap.size + 2) 82 i0 2 Tryd.underlying31 hi (.slice (some ⟨W.heap.size, 0, none⟩) 0 0) 0 [] (by rfl) ((HW1.out.alloc _).drew) (by rfl) ?_)
      | (refine step_append_none _ (by rfl) (.tmp 19) (.tmp 21) 31 (by rfl) (w.heap.size + 2) 82 i0 2 Tryd.underlying31 hi (.slice (some ⟨W.heap.size + 1, 0, none⟩) 0 0) 0 [] (by rfl) HW2.out.drew (by rfl) ?_)
      | (refine step_append_some _ (by rfl) (.tmp 22) (.tmp 28) 31 (by rfl) (w.heap.size + 2) 82 i0 _ 2 24 Tryd.underlying31 hi HII.out.2.1 HII.out.2.2.1 HII.out.2.2.2 rfl (by decide) W.heap.size (0) 0 ([]) (by rfl) ((HW1.out.alloc _).drew) ⟨W.heap.size + 1, 0, none⟩ (1) 1 ([.string nm, .int .i64 nl]) (by rfl) (by rfl) HN1.out (by simp [Value.oneCell']) (by unfold maxLen; omega) (by omega) (by first | exact hle | (simp; omega) | (have := hbA.size; simp; omega)) ?_; intro g2 cap2 w2 hown2 hg2; have hb2 : Below (w.heap.size + 2) W w2 := Below.grown (by go_grown) hg2 (by first | exact hle | (simp; omega) | (have := hbA.size; simp; omega)) (by intro k hk; cases hk; first | exact hle | omega | exact (hownA.lt _ rfl).1); obtain ⟨r0, r1, rf0, rf1⟩ := HR0.out.keepB hb2 (by omega))
      | (refine step_append_some _ (by rfl) (.tmp 22) (.tmp 28) 31 (by rfl) (w.heap.size + 2) 82 i0 _ 2 24 Tryd.underlying31 hi HII.out.2.1 HII.out.2.2.1 HII.out.2.2.2 rfl (by decide) (W.heap.size + 1) (0) 0 ([]) (by rfl) HW2.out.drew ⟨W.heap.size, 0, none⟩ (1) 1 ([.string nm, .int .i64 nl]) (by rfl) (by rfl) HN2.out (by simp [Value.oneCell']) (by unfold maxLen; omega) (by omega) (by first | exact hle | (simp; omega) | (have := hbA.size; simp; omega)) ?_; intro g2 cap2 w2 hown2 hg2; have hb2 : Below (w.heap.size + 2) W w2 := Below.grown (by go_grown) hg2 (by first | exact hle | (simp; omega) | (have := hbA.size; simp; omega)) (by intro k hk; cases hk; first | exact hle | omega | exact (hownA.lt _ rfl).1); obtain ⟨r0, r1, rf0, rf1⟩ := HR0.out.keepB hb2 (by omega)))
  all_goals
    go_wp2_with fail
    have hS := (Box2.mk r0 r1 rf0 rf1).set (.slice pl nl cl) (.slice (some ⟨g2, 0, none⟩) 1 cap2)
    have hbel : Below w.heap.size w ((w2.setCell ⟨w.heap.size + 1, 0, none⟩ (.slice pl nl cl)).setCell ⟨w.heap.size + 1, 1, none⟩ (.slice (some ⟨g2, 0, none⟩) 1 cap2)) := ((HBW.out.trans (hb2.mono (by omega))).setCell (by simp) _).setCell (by simp) _
    have hit : MarksAt ((w2.setCell ⟨w.heap.size + 1, 0, none⟩ (.slice pl nl cl)).setCell ⟨w.heap.size + 1, 1, none⟩ (.slice (some ⟨g2, 0, none⟩) 1 cap2)) (.slice (some ⟨g2, 0, none⟩) 1 cap2) (M ++ [(nm.data.toList, (nl : Int))]) := marks_fin hown2 (by rw [List.length_append, HL0.out]; rfl) (by rw [List.eq_nil_of_length_eq_zero HL0.out]; simp [markC]) (by omega) _ _
    have hfin := RMarkOk.yes (lv := .slice pl nl cl) (mv := (.slice none 0 0)) HLK.out hit hbel (fun kk hkk => by have := (hown2.lt kk hkk).1; omega)
    clear hit hbel r0 r1 rf0 rf1 hown2 hg2 hb2 HKS HKS2 HW1 HW2 HN1 HN2 HR0 HB0
    generalize (w2.setCell ⟨w.heap.size + 1, 0, none⟩ (.slice pl nl cl)).setCell ⟨w.heap.size + 1, 1, none⟩ (.slice (some ⟨g2, 0, none⟩) 1 cap2) = W9 at *
    obtain ⟨s0, s1, _, _⟩ := hS
    refine bodyPost_ret (by simp [results, Tryd.results25, go_sem, s0, s1]; try rfl) rfl ?_
    exact hfin
set_option maxRecDepth 100000 in
set_option maxHeartbeats 4000000 in
theorem rmark_some (w : World) (pl : Option Addr) (nl cl : Nat) (g cap : Nat) (M : List (List UInt8 × Int)) (hq : MarksAt w (.slice (some ⟨g, 0, none⟩) M.length cap) M) (nm : ByteArray) (hM : M.length ≤ maxLen) (hM2 : M.length < 4294967296) (hlk : ¬ (look M nm.data.toList).isSome = true) (hg : g < w.heap.size) (hcells : ∀ (j : Nat) u, (M.flatMap markC)[j]? = some u → w.cell? ⟨g, j, none⟩ = some u) :
    Calls Tryd.prog 25 #[.agg #[.slice pl nl cl, (.slice (some ⟨g, 0, none⟩) M.length cap)], .string nm] w (RMarkOk w (.slice pl nl cl) (.slice (some ⟨g, 0, none⟩) M.length cap) M nm nl) := by
  have HQ := ahid hq
  have HG := ahid (And.intro hg hcells)
  clear hg hcells hq
  obtain ⟨i0, hi, hz0, hz1, hz2⟩ := info_parts infol
  have HII := ahid (And.intro hi (And.intro hz0 (And.intro hz1 hz2)))
  clear hi hz0 hz1 hz2
  have hle0 : ((w.alloc (.cells #[.slice pl nl cl, (.slice (some ⟨g, 0, none⟩) M.length cap)] 33)).alloc (.cells #[.slice none 0 0, .slice none 0 0] 33)).heap.size = w.heap.size + 2 := by simp
  have hR : Box2 ((w.alloc (.cells #[.slice pl nl cl, (.slice (some ⟨g, 0, none⟩) M.length cap)] 33)).alloc (.cells #[.slice none 0 0, .slice none 0 0] 33)) (w.heap.size + 1) (.slice none 0 0) (.slice none 0 0) := by
    have := Box2.new (w.alloc (.cells #[.slice pl nl cl, (.slice (some ⟨g, 0, none⟩) M.length cap)] 33)) (.slice none 0 0) (.slice none 0 0) 33
    rw [show (w.alloc (.cells #[.slice pl nl cl, (.slice (some ⟨g, 0, none⟩) M.length cap)] 33)).heap.size = w.heap.size + 1 by simp] at this
    exact this
  have HB0 := ahid ((Box2.new w (.slice pl nl cl) (.slice (some ⟨g, 0, none⟩) M.length cap) 33).al (.cells #[.slice none 0 0, .slice none 0 0] 33))
  have hbw : Below w.heap.size w ((w.alloc (.cells #[.slice pl nl cl, (.slice (some ⟨g, 0, none⟩) M.length cap)] 33)).alloc (.cells #[.slice none 0 0, .slice none 0 0] 33)) := ((Below.refl _ _).alloc (Nat.le_refl _) _).alloc (by simp) _
  have HA := ahid (rat_any ((w.alloc (.cells #[.slice pl nl cl, (.slice (some ⟨g, 0, none⟩) M.length cap)] 33)).alloc (.cells #[.slice none 0 0, .slice none 0 0] 33)) (.slice pl nl cl) (.slice (some ⟨g, 0, none⟩) M.length cap) M (HQ.out.keep hbw) nm hM)
  have HR0 := ahid hR
  have HBW0 := ahid hbw
  have HSZ := ahid hle0
  clear hR hbw hle0
  go_enter Tryd.func25, Tryd.ntmps25
  go_wp2_with fail
  generalize ((w.alloc (.cells #[.slice pl nl cl, (.slice (some ⟨g, 0, none⟩) M.length cap)] 33)).alloc (.cells #[.slice none 0 0, .slice none 0 0] 33)) = W1 at *
  refine HA.out.mono ?_
  rw [show atE M nm = 7 from by unfold atE; first | rw [if_pos hlk] | rw [if_neg hlk]]
  rintro e W ⟨rfl, hb⟩
  replace HB0 := ahid (HB0.out.keepB hb HB0.out.lt)
  replace HR0 := ahid (HR0.out.keepB hb HR0.out.lt)
  have HBW := ahid (HBW0.out.trans (hb.mono HBW0.out.size))
  have HLE := ahid (show w.heap.size + 2 ≤ W.heap.size by have := hb.size; have := HSZ.out; omega)
  have HLK := ahid hlk
  clear hb HA HBW0 hlk
  generalize atN M nm = na
  go_wp2_with fail
  have HKS := ahid (show ∀ w', Below (w.heap.size + 2) W w' → w'.cell? ⟨w.heap.size, 0, none⟩ = some (.slice pl nl cl) ∧ w'.cell? ⟨w.heap.size, 1, none⟩ = some (.slice (some ⟨g, 0, none⟩) M.length cap) from fun w' hb => by
    have h1 := HB0.out.keepB hb (by omega)
    exact ⟨h1.c0, h1.c1⟩)
  have HKS2 := ahid (show ∀ w' u v, Below (w.heap.size + 2) W w' → (fun w' => w'.cell? ⟨w.heap.size, 0, none⟩ = some (.slice pl nl cl) ∧ w'.cell? ⟨w.heap.size, 1, none⟩ = some (.slice (some ⟨g, 0, none⟩) M.length cap)) ((w'.setCell ⟨w.heap.size + 1, 0, none⟩ u).setCell ⟨w.heap.size + 1, 1, none⟩ v) from fun w' u v hb => by
    have h1 := HKS.out w' hb
    have k : ∀ (b i : Nat) (x : Value), b ≠ w.heap.size + 1 → w'.cell? ⟨b, i, none⟩ = some x → ((w'.setCell ⟨w.heap.size + 1, 0, none⟩ u).setCell ⟨w.heap.size + 1, 1, none⟩ v).cell? ⟨b, i, none⟩ = some x := fun b i x hne h => ((World.cell?_setCell_far _ _ _ _ (fun e => hne e.symm)).trans (World.cell?_setCell_far _ _ _ _ (fun e => hne e.symm))).trans h
    exact ⟨k _ _ _ (by omega) h1.1, k _ _ _ (by omega) h1.2⟩)
  have HSRC := ahid (fun (j : Nat) (u : Value) (hu : (M.flatMap markC)[j]? = some u) => show W.cell? ((⟨g, 0, none⟩ : Addr).add j) = some u by rw [addr_add0]; exact ((acell HBW.out).1 g j HG.out.1).trans (HG.out.2 j u hu))
  have hi := HII.out.1
  have hbl0 := Below.refl (w.heap.size + 2) W
  have hle : w.heap.size + 2 ≤ W.heap.size := HLE.out
  have HW1 : Hid ((W.alloc (.cells #[] 82)).ownsRow (w.heap.size + 2) 82 2 (.slice (some ⟨W.heap.size, 0, none⟩) 0 0) 0 []) := ahid (World.ownsRow_made W #[] 0 hle (Nat.zero_le _) rfl)
  have HW2 : Hid (((W.alloc (.cells #[.string nm, .int .i64 nl] 82)).alloc (.cells #[] 82)).ownsRow (w.heap.size + 2) 82 2 (.slice (some ⟨W.heap.size + 1, 0, none⟩) 0 0) 0 []) := by
    have h := World.ownsRow_made (base := w.heap.size + 2) (size := 2) (e := 82) (W.alloc (.cells #[.string nm, .int .i64 nl] 82)) #[] 0 (by simp; omega) (Nat.zero_le _) rfl
    rw [show (W.alloc (.cells #[.string nm, .int .i64 nl] 82)).heap.size = W.heap.size + 1 by simp] at h
    exact ahid h
  have HN1 : Hid (∀ (j : Nat) u, [.string nm, .int .i64 nl][j]? = some u → ((W.alloc (.cells #[] 82)).alloc (.cells #[.string nm, .int .i64 nl] 82)).drew.cell? ((⟨W.heap.size + 1, 0, none⟩ : Addr).add j) = some u) := by
    have h := cells_new (W.alloc (.cells #[] 82)) #[.string nm, .int .i64 nl] 82
    rw [show (W.alloc (.cells #[] 82)).heap.size = W.heap.size + 1 by simp] at h
    exact ahid h
  have HN2 : Hid (∀ (j : Nat) u, [.string nm, .int .i64 nl][j]? = some u → ((W.alloc (.cells #[.string nm, .int .i64 nl] 82)).alloc (.cells #[] 82)).drew.cell? ((⟨W.heap.size, 0, none⟩ : Addr).add j) = some u) := ahid fun j u hu => Lib.cell?_alloc_some _ (cells_new W #[.string nm, .int .i64 nl] 82 j u hu)
  go_region_held3 (fun w' => w'.cell? ⟨w.heap.size, 0, none⟩ = some (.slice pl nl cl) ∧ w'.cell? ⟨w.heap.size, 1, none⟩ = some (.slice (some ⟨g, 0, none⟩) M.length cap)) (first | (refine HKS.out _ ?_; go_grown; done) | (refine HKS2.out _ _ _ ?_; go_grown; done))
    (first
      | (refine step_append_some _ (by rfl) (.tmp 19) (.tmp 21) 31 (by rfl) (w.heap.size + 2) 82 i0 _ 2 24 Tryd.underlying31 hi HII.out.2.1 HII.out.2.2.1 HII.out.2.2.2 rfl (by decide) W.heap.size (0) 0 ([]) (by rfl) HW1.out.drew ⟨g, 0, none⟩ (M.length) cap (M.flatMap markC) (by rfl) HQ.out.1 (fun j u hu => Lib.cell?_alloc_some _ (HSRC.out j u hu)) (marks_one M) (by unfold maxLen; omega) (by omega) (by first | exact hle | (simp; omega) | (have := hbA.size; simp; omega)) ?_; intro gA capA wA hownA hgA; rw [Nat.zero_add, List.nil_append] at hownA; have hbA : Below (w.heap.size + 2) W wA := Below.grown (by go_grown) hgA (by first | exact hle | (simp; omega)) (by intro k hk; cases hk; first | exact hle | omega); have hleA : w.heap.size + 2 ≤ wA.heap.size := Nat.le_trans hle hbA.size)
      | (refine step_append_some _ (by rfl) (.tmp 19) (.tmp 21) 31 (by rfl) (w.heap.size + 2) 82 i0 _ 2 24 Tryd.underlying31 hi HII.out.2.1 HII.out.2.2.1 HII.out.2.2.2 rfl (by decide) W.heap.size (0) 0 ([]) (by rfl) ((HW1.out.alloc _).drew) ⟨g, 0, none⟩ (M.length) cap (M.flatMap markC) (by rfl) HQ.out.1 (fun j u hu => Lib.cell?_alloc_some _ (Lib.cell?_alloc_some _ (HSRC.out j u hu))) (marks_one M) (by unfold maxLen; omega) (by omega) (by first | exact hle | (simp; omega) | (have := hbA.size; simp; omega)) ?_; intro gA capA wA hownA hgA; rw [Nat.zero_add, List.nil_append] at hownA; have hbA : Below (w.heap.size + 2) W wA := Below.grown (by go_grown) hgA (by first | exact hle | (simp; omega)) (by intro k hk; cases hk; first | exact hle | omega); have hleA : w.heap.size + 2 ≤ wA.heap.size := Nat.le_trans hle hbA.size; have hXB : ∀ (j : Nat) u, [.string nm, .int .i64 nl][j]? = some u → wA.cell? ((⟨W.heap.size + 1, 0, none⟩ : Addr).add j) = some u := (fun j u hu => (hgA.cell_far _ (by rw [addr_add0]; simp <;> omega) (by rw [addr_add0]; simp)).trans (HN1.out j u hu)))
      | (refine step_append_some _ (by rfl) (.tmp 19) (.tmp 21) 31 (by rfl) (w.heap.size + 2) 82 i0 _ 2 24 Tryd.underlying31 hi HII.out.2.1 HII.out.2.2.1 HII.out.2.2.2 rfl (by decide) (W.heap.size + 1) (0) 0 ([]) (by rfl) HW2.out.drew ⟨g, 0, none⟩ (M.length) cap (M.flatMap markC) (by rfl) HQ.out.1 (fun j u hu => Lib.cell?_alloc_some _ (Lib.cell?_alloc_some _ (HSRC.out j u hu))) (marks_one M) (by unfold maxLen; omega) (by omega) (by first | exact hle | (simp; omega) | (have := hbA.size; simp; omega)) ?_; intro gA capA wA hownA hgA; rw [Nat.zero_add, List.nil_append] at hownA; have hbA : Below (w.heap.size + 2) W wA := Below.grown (by go_grown) hgA (by first | exact hle | (simp; omega)) (by intro k hk; cases hk; first | exact hle | omega); have hleA : w.heap.size + 2 ≤ wA.heap.size := Nat.le_trans hle hbA.size; have hXC : ∀ (j : Nat) u, [.string nm, .int .i64 nl][j]? = some u → wA.cell? ((⟨W.heap.size, 0, none⟩ : Addr).add j) = some u := (fun j u hu => (hgA.cell_far _ (by rw [addr_add0]; simp <;> omega) (by rw [addr_add0]; simp)).trans (HN2.out j u hu)))
      | (have _t := hXB; refine step_append_some _ (by rfl) (.tmp 22) (.tmp 28) 31 (by rfl) (w.heap.size + 2) 82 i0 _ 2 24 Tryd.underlying31 hi HII.out.2.1 HII.out.2.2.1 HII.out.2.2.2 rfl (by decide) gA (M.length) capA (_) (by first | rfl | exact (congrArg (fun k => Value.slice (some ⟨gA, 0, none⟩) k capA) (Nat.zero_add _))) hownA ⟨W.heap.size + 1, 0, none⟩ (1) 1 ([.string nm, .int .i64 nl]) (by rfl) (by rfl) hXB (by simp [Value.oneCell']) (by unfold maxLen; omega) (by omega) (by first | exact hle | (simp; omega) | (have := hbA.size; simp; omega)) ?_; intro g2 cap2 w2 hown2 hg2; have hb2 : Below (w.heap.size + 2) W w2 := Below.grown (by go_grown) hg2 (by first | exact hle | (simp; omega) | (have := hbA.size; simp; omega)) (by intro k hk; cases hk; first | exact hle | omega | exact (hownA.lt _ rfl).1); obtain ⟨r0, r1, rf0, rf1⟩ := HR0.out.keepB hb2 (by omega))
      | (have _t := hXC; refine step_append_some _ (by rfl) (.tmp 22) (.tmp 28) 31 (by rfl) (w.heap.size + 2) 82 i0 _ 2 24 Tryd.underlying31 hi HII.out.2.1 HII.out.2.2.1 HII.out.2.2.2 rfl (by decide) gA (M.length) capA (_) (by first | rfl | exact (congrArg (fun k => Value.slice (some ⟨gA, 0, none⟩) k capA) (Nat.zero_add _))) hownA ⟨W.heap.size, 0, none⟩ (1) 1 ([.string nm, .int .i64 nl]) (by rfl) (by rfl) hXC (by simp [Value.oneCell']) (by unfold maxLen; omega) (by omega) (by first | exact hle | (simp; omega) | (have := hbA.size; simp; omega)) ?_; intro g2 cap2 w2 hown2 hg2; have hb2 : Below (w.heap.size + 2) W w2 := Below.grown (by go_grown) hg2 (by first | exact hle | (simp; omega) | (have := hbA.size; simp; omega)) (by intro k hk; cases hk; first | exact hle | omega | exact (hownA.lt _ rfl).1); obtain ⟨r0, r1, rf0, rf1⟩ := HR0.out.keepB hb2 (by omega))
      | (refine step_append_some _ (by rfl) (.tmp 22) (.tmp 28) 31 (by rfl) (w.heap.size + 2) 82 i0 _ 2 24 Tryd.underlying31 hi HII.out.2.1 HII.out.2.2.1 HII.out.2.2.2 rfl (by decide) gA (M.length) capA (_) (by first | rfl | exact (congrArg (fun k => Value.slice (some ⟨gA, 0, none⟩) k capA) (Nat.zero_add _))) (hownA.alloc _) ⟨wA.heap.size, 0, none⟩ (1) 1 ([.string nm, .int .i64 nl]) (by rfl) (by rfl) (cells_new wA _ _) (by simp [Value.oneCell']) (by unfold maxLen; omega) (by omega) (by first | exact hle | (simp; omega) | (have := hbA.size; simp; omega)) ?_; intro g2 cap2 w2 hown2 hg2; have hb2 : Below (w.heap.size + 2) W w2 := Below.grown (by go_grown) hg2 (by first | exact hle | (simp; omega) | (have := hbA.size; simp; omega)) (by intro k hk; cases hk; first | exact hle | omega | exact (hownA.lt _ rfl).1); obtain ⟨r0, r1, rf0, rf1⟩ := HR0.out.keepB hb2 (by omega)))
  all_goals
    go_wp2_with fail
    have hS := (Box2.mk r0 r1 rf0 rf1).set (.slice pl nl cl) (.slice (some ⟨g2, 0, none⟩) (M.length + 1) cap2)
    have hbel : Below w.heap.size w ((w2.setCell ⟨w.heap.size + 1, 0, none⟩ (.slice pl nl cl)).setCell ⟨w.heap.size + 1, 1, none⟩ (.slice (some ⟨g2, 0, none⟩) (M.length + 1) cap2)) := ((HBW.out.trans (hb2.mono (by omega))).setCell (by simp) _).setCell (by simp) _
    have hit : MarksAt ((w2.setCell ⟨w.heap.size + 1, 0, none⟩ (.slice pl nl cl)).setCell ⟨w.heap.size + 1, 1, none⟩ (.slice (some ⟨g2, 0, none⟩) (M.length + 1) cap2)) (.slice (some ⟨g2, 0, none⟩) (M.length + 1) cap2) (M ++ [(nm.data.toList, (nl : Int))]) := marks_fin hown2 (by simp) (by rw [List.flatMap_append]; simp [markC]) (by omega) _ _
    have hfin := RMarkOk.yes (lv := .slice pl nl cl) (mv := (.slice (some ⟨g, 0, none⟩) M.length cap)) HLK.out hit hbel (fun kk hkk => by have := (hown2.lt kk hkk).1; omega)
    clear hit hbel r0 r1 rf0 rf1 hown2 hg2 hb2 HKS HKS2 HW1 HW2 HN1 HN2 HR0 HB0
    generalize (w2.setCell ⟨w.heap.size + 1, 0, none⟩ (.slice pl nl cl)).setCell ⟨w.heap.size + 1, 1, none⟩ (.slice (some ⟨g2, 0, none⟩) (M.length + 1) cap2) = W9 at *
    obtain ⟨s0, s1, _, _⟩ := hS
    refine bodyPost_ret (by simp [results, Tryd.results25, go_sem, s0, s1]; try rfl) rfl ?_
    exact hfin
theorem rmark_any (w : World) (pl : Option Addr) (nl cl : Nat) (mv : Value) (M : List (List UInt8 × Int)) (hq : MarksAt w mv M) (nm : ByteArray) (hM2 : M.length < 4294967296) :
    Calls Tryd.prog 25 #[.agg #[.slice pl nl cl, mv], .string nm] w (RMarkOk w (.slice pl nl cl) mv M nm nl) := by
  have hM : M.length ≤ maxLen := by unfold maxLen; omega
  by_cases hlk : (look M nm.data.toList).isSome = true
  · exact rmark_no w pl nl cl mv M hq nm hM hlk
  · have hq2 := hq.2
    rcases hq2 with ⟨rfl, h0⟩ | ⟨g, cap, rfl, _, _, hg, hc⟩
    · exact rmark_nil w pl nl cl M hq nm hM hM2 hlk h0
    · exact rmark_some w pl nl cl g cap M hq nm hM hM2 hlk hg hc
end Go.Proofs.YtimhpohlaagbpaaDoor
