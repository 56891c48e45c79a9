/- The document's list (muntinref07): Put. -/
import Derived.Test.YtfbbodaapkfbdaaDoorG19
import Derived.Test.YtfbbodaapkfbdaaDoorG20
namespace Go.Proofs.YtfbbodaapkfbdaaDoor
open Go.RowKit Go.Maps
set_option linter.unusedVariables false
set_option linter.unusedSimpArgs false
theorem info8i : (Tryd.prog.info? 115).map (fun i => (i.zero, i.size, i.bytes)) = some (some (.agg #[.int .u8 0, .int .u8 0, .int .u8 0, .int .u8 0, .bool false, .int .i32 0, .bool false, .string ⟨#[]⟩]), 8, 32) := by kernel_rfl
/-- A struct of two slices, in a box. -/
structure Box2 (w : World) (b : Nat) (lv mv : Value) : Prop where
  c0 : w.cell? ⟨b, 0, none⟩ = some lv
  c1 : w.cell? ⟨b, 1, none⟩ = some mv
  f0 : w.frozen? ⟨b, 0, none⟩ = false
  f1 : w.frozen? ⟨b, 1, none⟩ = false
theorem Box2.lt {w : World} {b : Nat} {lv mv : Value} (h : Box2 w b lv mv) : b < w.heap.size := World.block_lt_of_cell? _ _ h.c0
theorem Box2.new (w : World) (lv mv : Value) (t : TypeId) : Box2 (w.alloc (.cells #[lv, mv] t)) w.heap.size lv mv := by
  have h := heap_alloc_new w (.cells #[lv, mv] t)
  exact ⟨by simp only [World.cell?, h]; rfl, by simp only [World.cell?, h]; rfl, by simp only [World.frozen?, h]; rfl, by simp only [World.frozen?, h]; rfl⟩
theorem Box2.keepB {w w' : World} {B b : Nat} {lv mv : Value} (h : Box2 w b lv mv) (hb : Below B w w') (hl : b < B) : Box2 w' b lv mv :=
  ⟨(hb.cell (p := ⟨b, 0, none⟩) hl).trans h.c0, (hb.cell (p := ⟨b, 1, none⟩) hl).trans h.c1, (hb.frozen (p := ⟨b, 0, none⟩) hl).trans h.f0, (hb.frozen (p := ⟨b, 1, none⟩) hl).trans h.f1⟩
theorem Box2.al {w : World} {b : Nat} {lv mv : Value} (h : Box2 w b lv mv) (o : Obj) : Box2 (w.alloc o) b lv mv := h.keepB ((Below.refl _ _).alloc (Nat.le_refl _) _) h.lt
theorem It.cells_one (it : It) : ∀ u ∈ it.cells, u.oneCell' = true := by
  intro u hu
  cases it <;> simp [It.cells, Ix.cells] at hu <;> (rcases hu with rfl | rfl | rfl | rfl | rfl | rfl | rfl | rfl <;> simp [Value.oneCell'])
theorem items_one (L : List It) : ∀ u ∈ L.flatMap It.cells, u.oneCell' = true := by
  intro u hu
  obtain ⟨it, _, h⟩ := List.mem_flatMap.1 hu
  exact it.cells_one u h
theorem Box2.set {w : World} {b : Nat} {x y : Value} (h : Box2 w b x y) (u v : Value) : Box2 ((w.setCell ⟨b, 0, none⟩ u).setCell ⟨b, 1, none⟩ v) b u v := by
  obtain ⟨c0, c1, f0, f1⟩ := h
  refine ⟨?_, ?_, ?_, ?_⟩
  · exact (World.cell?_setCell_other _ _ _ _ (by simp)).trans (World.cell?_setCell_same _ _ _ c0)
  · exact World.cell?_setCell_same _ _ _ (u := y) ((World.cell?_setCell_other _ _ _ _ (by simp)).trans c1)
  · simpa using f0
  · simpa using f1
theorem Box2.only {w w' : World} {S : Nat → Prop} {b : Nat} (h : Only S w w') (hb : S b) (u v : Value) : Only S w ((w'.setCell ⟨b, 0, none⟩ u).setCell ⟨b, 1, none⟩ v) := (h.setCell (p := ⟨b, 0, none⟩) hb u).setCell (p := ⟨b, 1, none⟩) hb v
/-- The loop of Put. -/
structure RPutAt (w W0 : World) (lv mv : Value) (L : List It) (l : List Ix) (ov : Value) (k : Nat) (wr : World) : Prop where
  own : wr.ownsRow (w.heap.size + 2) 115 8 ov (L.length + k) ((L ++ (l.take k).map It.put).flatMap It.cells)
  may : ∀ (i : Nat) (x : Ix), i < k → l[i]? = some x → mayP x
  below : Below (w.heap.size + 2) W0 wr
theorem RPutAt.more {w W0 wr wA w3 : World} {lv mv ov v3 : Value} {L : List It} {l : List Ix} {k : Nat} {x : Ix} (h : RPutAt w W0 lv mv L l ov k wr) (hW : w.heap.size + 2 ≤ W0.heap.size) (hx : l[k]? = some x) (hm : mayP x) (hb : Below wr.heap.size wr wA)
    (ho : w3.ownsRow (w.heap.size + 2) 115 8 v3 (L.length + k + 1) ((L ++ (l.take k).map It.put).flatMap It.cells ++ It.cells (.put x))) (hg : wA.grownBy w3 ov.ownBlock) : RPutAt w W0 lv mv L l v3 (k + 1) w3 := by
  refine ⟨?_, ?_, ?_⟩
  · rw [(take_get l k x hx).1, List.map_append, ← List.append_assoc, List.flatMap_append]
    simpa [Nat.add_assoc] using ho
  · intro i y hi hy
    by_cases hik : i < k
    · exact h.may i y hik hy
    · obtain rfl : i = k := by omega
      rw [hx] at hy; cases hy; exact hm
  · have hs := h.below.size
    exact (h.below.trans (hb.mono (by omega))).grown hg (by have := hb.size; omega) (fun i hi => (h.own.lt i hi).1)
theorem RPutAt.fin {w W0 wr : World} {lv mv ov : Value} {L : List It} {l : List Ix} (h : RPutAt w W0 lv mv L l ov l.length wr) (u v : Value) : ItemsAt ((wr.setCell ⟨w.heap.size + 1, 0, none⟩ u).setCell ⟨w.heap.size + 1, 1, none⟩ v) ov (L ++ l.map .put) := by
  have ho := h.own
  have hlt := ho.lt
  rw [List.take_length] at ho
  unfold ItemsAt
  rw [List.length_append, List.length_map]
  exact (RowC.of_own ho).keepO (Box2.only (S := fun k => k = w.heap.size + 1) (Only.refl _ wr) rfl u v) (fun k hk e => by have := (hlt k hk).1; omega)
/-- What Put of the document leaves. -/
def RPutOk (w : World) (lv mv : Value) (L : List It) (l : List Ix) (e : Ending) (w' : World) : Prop :=
  ∃ lv', e = .returned (.tuple #[.agg #[lv', mv], .int .i64 (if ∀ x ∈ l, mayP x then 0 else 2)]) ∧ ItemsAt w' lv' (if ∀ x ∈ l, mayP x then L ++ l.map .put else L) ∧ Below w.heap.size w w' ∧ ∀ k, lv'.ownBlock = some k → lv.ownBlock = some k ∨ w.heap.size ≤ k
theorem RPutOk.yes {w w' : World} {lv mv lv' : Value} {L : List It} {l : List Ix} (h : ∀ x ∈ l, mayP x) (hi : ItemsAt w' lv' (L ++ l.map .put)) (hb : Below w.heap.size w w') (hk : ∀ k, lv'.ownBlock = some k → w.heap.size ≤ k) : RPutOk w lv mv L l (.returned (.tuple #[.agg #[lv', mv], .int .i64 0])) w' :=
  ⟨lv', by rw [if_pos h], by rw [if_pos h]; exact hi, hb, fun k e => .inr (hk k e)⟩
theorem RPutOk.no {w w' : World} {lv mv : Value} {L : List It} {l : List Ix} {x : Ix} (hx : x ∈ l) (h : ¬ mayP x) (hi : ItemsAt w' lv L) (hb : Below w.heap.size w w') : RPutOk w lv mv L l (.returned (.tuple #[.agg #[lv, mv], .int .i64 2])) w' := by
  have hn : ¬ ∀ x ∈ l, mayP x := fun h2 => h (h2 x hx)
  exact ⟨lv, by rw [if_neg hn], by rw [if_neg hn]; exact hi, hb, fun k e => .inl e⟩
set_option maxRecDepth 100000 in
set_option maxHeartbeats 2000000 in
theorem rput_any (w : World) (lv mv : Value) (L : List It) (hq : ItemsAt w lv L) (hmv : ∃ pm nm cm, mv = .slice pm nm cm) (v : Value) (l : List Ix) (hl : InsIn w v l) (hL : L.length + l.length < 4294967296) :
    Calls Tryd.prog 42 #[.agg #[lv, mv], v] w (RPutOk w lv mv L l) := by
  obtain ⟨pm, nm, cm, rfl⟩ := hmv
  obtain ⟨hlm, pv, cv, b, o, rfl, hpv, hins⟩ := hl
  have HI := ahid hins
  have HP := ahid hpv
  unfold maxLen at hlm
  obtain ⟨i0, hi, hz0, hz1, hz2⟩ := info_parts info8i
  have HII := ahid (And.intro hi (And.intro hz0 (And.intro hz1 hz2)))
  have HQ := ahid hq
  have hq2 := hq.2
  have hq1 := hq.1
  clear hi hz0 hz1 hz2 hins hpv hq
  have hi := HII.out.1
  have HW1 : Hid ((((w.alloc (.cells #[lv, (.slice pm nm cm)] 60)).alloc (.cells #[.slice none 0 0, .slice none 0 0] 60)).alloc (.cells #[] 115)).ownsRow (w.heap.size + 2) 115 8 (.slice (some ⟨w.heap.size + 1 + 1, 0, none⟩) 0 0) 0 []) := by
    have := World.ownsRow_made (base := w.heap.size + 2) (size := 8) (e := 115) ((w.alloc (.cells #[lv, (.slice pm nm cm)] 60)).alloc (.cells #[.slice none 0 0, .slice none 0 0] 60)) #[] 0 (by simp) (Nat.zero_le _) rfl
    rw [show ((w.alloc (.cells #[lv, (.slice pm nm cm)] 60)).alloc (.cells #[.slice none 0 0, .slice none 0 0] 60)).heap.size = w.heap.size + 1 + 1 by simp] at this
    exact ahid this
  have HB0 := ahid ((Box2.new w lv (.slice pm nm cm) 60).al (.cells #[.slice none 0 0, .slice none 0 0] 60))
  have HR0 : Hid (Box2 ((w.alloc (.cells #[lv, (.slice pm nm cm)] 60)).alloc (.cells #[.slice none 0 0, .slice none 0 0] 60)) (w.heap.size + 1) (.slice none 0 0) (.slice none 0 0)) := by
    have := Box2.new (w.alloc (.cells #[lv, (.slice pm nm cm)] 60)) (.slice none 0 0) (.slice none 0 0) 60
    rw [show (w.alloc (.cells #[lv, (.slice pm nm cm)] 60)).heap.size = w.heap.size + 1 by simp] at this
    exact ahid this
  rcases hq2 with ⟨rfl, hl0⟩ | ⟨g, cap, rfl, hcap1, hcap2, hg, hcells⟩
  · replace hl0 := ahid hl0
    go_enter Tryd.func42, Tryd.ntmps42
    go_wp2_with (first | (at_builtin; refine wpList_append_own_none rfl _ _ 57 rfl (w.heap.size + 2) 115 i0 8 Tryd.underlying57 hi (.slice (some ⟨w.heap.size + 1 + 1, 0, none⟩) 0 0) 0 [] rfl HW1.out rfl ?_))
    have hown1 := HW1.out
    have hb1 : Below (w.heap.size + 2) ((w.alloc (.cells #[.slice none 0 0, (.slice pm nm cm)] 60)).alloc (.cells #[.slice none 0 0, .slice none 0 0] 60)) (((w.alloc (.cells #[.slice none 0 0, (.slice pm nm cm)] 60)).alloc (.cells #[.slice none 0 0, .slice none 0 0] 60)).alloc (.cells #[] 115)) := (Below.refl _ _).alloc (by simp) _
    have HBW := ahid (show Below w.heap.size w ((w.alloc (.cells #[.slice none 0 0, (.slice pm nm cm)] 60)).alloc (.cells #[.slice none 0 0, .slice none 0 0] 60)) from ((Below.refl _ w).alloc (Nat.le_refl _) _).alloc (by simp) _)
    have HZ0 := ahid (show ((w.alloc (.cells #[.slice none 0 0, (.slice pm nm cm)] 60)).alloc (.cells #[.slice none 0 0, .slice none 0 0] 60)).heap.size = w.heap.size + 2 by simp)
    have HNL := ahid (List.eq_nil_of_length_eq_zero hl0.out)
    generalize ((w.alloc (.cells #[.slice none 0 0, (.slice pm nm cm)] 60)).alloc (.cells #[.slice none 0 0, .slice none 0 0] 60)) = W0 at *
    generalize W0.alloc (.cells #[] 115) = w1 at *
    have hsz0 : W0.heap.size = w.heap.size + 2 := HZ0.out
    have HB1 := ahid hb1
    have HS : Hid (RPutAt w W0 (.slice none 0 0) (.slice pm nm cm) L l (.slice (some ⟨w.heap.size + 1 + 1, 0, none⟩) 0 0) 0 w1) := ahid (by have e := HNL.out; subst e; exact ⟨by simpa using hown1, fun i x h => by omega, hb1⟩)
    clear hb1 hown1 HW1
    go_wp2_with fail
    go_loopw [6, 7] (fun v6 i wr => ∃ (k : Nat) (ov : Value), k ≤ l.length ∧ i = .int .i64 k ∧ ov = v6 ∧ RPutAt w W0 (.slice none 0 0) (.slice pm nm cm) L l ov k wr) (fun _ i _ => l.length - (intOf i).toNat)
    case atStart => exact ⟨0, _, Nat.zero_le _, rfl, rfl, HS.out⟩
    case round =>
      obtain ⟨k, ov, hk, rfl, rfl, HR⟩ := hrel
      replace HR := ahid HR
      have hbx := HB0.out.keepB HR.out.below (by omega)
      have hrx := HR0.out.keepB HR.out.below (by omega)
      obtain ⟨b0, b1, bf0, bf1⟩ := hbx
      obtain ⟨r0, r1, rf0, rf1⟩ := hrx
      by_cases hlt : k < l.length
      · obtain ⟨x, hx⟩ : ∃ x, l[k]? = some x := ⟨_, List.getElem?_eq_getElem hlt⟩
        obtain rfl := HP.out (by omega)
        have hbw := HBW.out.trans (HR.out.below.mono (by omega))
        have hxi := (HI.out k x hx).keepb hbw
        have hM := rmay_any x hxi.bd wr
        have c0 := hxi.c0
        have c1 := hxi.c1
        have c2 := hxi.c2
        have c3 := hxi.c3
        have c4 := hxi.c4
        have c5 := hxi.c5
        have HX := ahid hx
        have HXI := ahid hxi
        have HBw := ahid hbw
        have hkl : (k : Int) < l.length := by omega
        clear hx hxi hbw
        by_cases hm : mayP x
        · rw [show mayB x = true from decide_eq_true hm] at hM
          have HMM := ahid hM
          have HM := ahid hm
          clear hM hm
          obtain ⟨op, rd, rs1, rs2, is, imm⟩ := x
          go_wp2_with fail
          refine HMM.out.mono ?_
          rintro e w2 ⟨rfl, hb2⟩
          have hxi2 := HXI.out.keepb hb2
          have hown2 := HR.out.own.kept_below hb2 (by have := HR.out.below.size; omega)
          have HB2 := ahid hb2
          clear hb2 c0 c1 c2 c3 c4 c5
          have c0 := hxi2.c0
          have c1 := hxi2.c1
          have c2 := hxi2.c2
          have c3 := hxi2.c3
          have c4 := hxi2.c4
          have c5 := hxi2.c5
          clear hxi2
          have hi := HII.out.1
          go_wp2_with (first | (at_builtin; refine wpList_append_own _ rfl _ _ 57 rfl (w.heap.size + 2) 115 i0 _ 8 32 Tryd.underlying57 hi HII.out.2.1 HII.out.2.2.1 HII.out.2.2.2 rfl (by decide) ov (L.length + k) _ rfl (hown2.alloc _) ⟨w2.heap.size, 0, none⟩ 1 1 [.int .u8 op, .int .u8 rd, .int .u8 rs1, .int .u8 rs2, .bool is, .int .i32 imm, .bool false, .string ⟨#[]⟩] rfl rfl (cells_new w2 _ _) (by simp [Value.oneCell']) (by unfold maxLen; omega) (by omega) (by have := HR.out.below.size; have := HB2.out.size; simp; omega) ?_; intro v3 w3 hown3 hg3 hnil3))
          have hmore := HR.out.more (by omega) HX.out HM.out (HB2.out.alloc HB2.out.size _) hown3 hg3
          go_roundw
          case rel => exact ⟨k + 1, v3, by omega, by go_num, rfl, hmore⟩
          case measure => simp [intOf]; omega
        · rw [show mayB x = false from decide_eq_false hm] at hM
          have HMM := ahid hM
          have HM := ahid hm
          clear hM hm
          obtain ⟨op, rd, rs1, rs2, is, imm⟩ := x
          go_wp2_with fail
          refine HMM.out.mono ?_
          rintro e w2 ⟨rfl, hb2⟩
          have hbx := HB0.out.keepB (HR.out.below.trans (hb2.mono (by have := HR.out.below.size; omega))) (by omega)
          have hrx := HR0.out.keepB (HR.out.below.trans (hb2.mono (by have := HR.out.below.size; omega))) (by omega)
          have HB2 := ahid hb2
          clear hb2 c0 c1 c2 c3 c4 c5 b0 b1 bf0 bf1 r0 r1 rf0 rf1
          obtain ⟨b0, b1, bf0, bf1⟩ := hbx
          obtain ⟨r0, r1, rf0, rf1⟩ := hrx
          go_wp2_with fail
          have hS := (Box2.mk r0 r1 rf0 rf1).set (.slice none 0 0) (.slice pm nm cm)
          have hbel : Below w.heap.size w ((w2.setCell ⟨w.heap.size + 1, 0, none⟩ (.slice none 0 0)).setCell ⟨w.heap.size + 1, 1, none⟩ (.slice pm nm cm)) := (((HBW.out.trans (HR.out.below.mono (by omega))).trans (HB2.out.mono (by have := HR.out.below.size; omega))).setCell (by simp) _).setCell (by simp) _
          have HBL := ahid hbel
          have hIt := RPutOk.no (lv := (.slice none 0 0)) (mv := .slice pm nm cm) (List.mem_of_getElem? HX.out) HM.out (HQ.out.keep hbel) hbel
          clear hbel b0 b1 bf0 bf1 r0 r1 rf0 rf1
          generalize (w2.setCell ⟨w.heap.size + 1, 0, none⟩ (.slice none 0 0)).setCell ⟨w.heap.size + 1, 1, none⟩ (.slice pm nm cm) = W9 at *
          obtain ⟨s0, s1, _, _⟩ := hS
          refine bodyPost_ret (by simp [results, Tryd.results42, go_sem, s0, s1]; try rfl) rfl ?_
          exact hIt
      · obtain rfl : k = l.length := by omega
        have hkl : ¬ ((l.length : Int) < l.length) := by omega
        have hall : ∀ x ∈ l, mayP x := fun x hx => by
          obtain ⟨i, hi, he⟩ := List.mem_iff_getElem.1 hx
          exact HR.out.may i x hi (by rw [List.getElem?_eq_getElem hi, he])
        have HL := ahid hall
        clear hall
        have hor := HR.out.own.2
        rcases hor with ⟨rfl, _⟩ | ⟨gr, cr, _, rfl, _⟩
        · go_wp2_with fail
          have hS := (Box2.mk r0 r1 rf0 rf1).set (.slice none 0 0) (.slice pm nm cm)
          have hbel : Below w.heap.size w ((wr.setCell ⟨w.heap.size + 1, 0, none⟩ (.slice none 0 0)).setCell ⟨w.heap.size + 1, 1, none⟩ (.slice pm nm cm)) := ((HBW.out.trans (HR.out.below.mono (by omega))).setCell (by simp) _).setCell (by simp) _
          have hfin := HR.out.fin (.slice none 0 0) (.slice pm nm cm)
          have hIt := RPutOk.yes (lv := (.slice none 0 0)) (mv := .slice pm nm cm) HL.out hfin hbel (fun kk hkk => by have := (HR.out.own.lt kk hkk).1; omega)
          clear hbel hfin b0 b1 bf0 bf1 r0 r1 rf0 rf1
          generalize (wr.setCell ⟨w.heap.size + 1, 0, none⟩ (.slice none 0 0)).setCell ⟨w.heap.size + 1, 1, none⟩ (.slice pm nm cm) = W9 at *
          obtain ⟨s0, s1, _, _⟩ := hS
          refine bodyPost_ret (by simp [results, Tryd.results42, go_sem, s0, s1]; try rfl) rfl ?_
          exact hIt
        · go_wp2_with fail
          have hS := (Box2.mk r0 r1 rf0 rf1).set (.slice (some ⟨gr, 0, none⟩) (L.length + l.length) cr) (.slice pm nm cm)
          have hbel : Below w.heap.size w ((wr.setCell ⟨w.heap.size + 1, 0, none⟩ (.slice (some ⟨gr, 0, none⟩) (L.length + l.length) cr)).setCell ⟨w.heap.size + 1, 1, none⟩ (.slice pm nm cm)) := ((HBW.out.trans (HR.out.below.mono (by omega))).setCell (by simp) _).setCell (by simp) _
          have hfin := HR.out.fin (.slice (some ⟨gr, 0, none⟩) (L.length + l.length) cr) (.slice pm nm cm)
          have hIt := RPutOk.yes (lv := (.slice none 0 0)) (mv := .slice pm nm cm) HL.out hfin hbel (fun kk hkk => by have := (HR.out.own.lt kk hkk).1; omega)
          clear hbel hfin b0 b1 bf0 bf1 r0 r1 rf0 rf1
          generalize (wr.setCell ⟨w.heap.size + 1, 0, none⟩ (.slice (some ⟨gr, 0, none⟩) (L.length + l.length) cr)).setCell ⟨w.heap.size + 1, 1, none⟩ (.slice pm nm cm) = W9 at *
          obtain ⟨s0, s1, _, _⟩ := hS
          refine bodyPost_ret (by simp [results, Tryd.results42, go_sem, s0, s1]; try rfl) rfl ?_
          exact hIt
  · have HC := ahid hcells
    go_enter Tryd.func42, Tryd.ntmps42
    go_wp2_with (first | (at_builtin; refine wpList_append_own _ rfl _ _ 57 rfl (w.heap.size + 2) 115 i0 _ 8 32 Tryd.underlying57 hi HII.out.2.1 HII.out.2.2.1 HII.out.2.2.2 rfl (by decide) (.slice (some ⟨w.heap.size + 1 + 1, 0, none⟩) 0 0) 0 [] rfl HW1.out ⟨g, 0, none⟩ L.length cap (L.flatMap It.cells) rfl HQ.out.1 (fun j u hu => by rw [addr_add0]; exact Lib.cell?_alloc_some _ (Lib.cell?_alloc_some _ (Lib.cell?_alloc_some _ (HC.out j u hu)))) (items_one L) (by unfold maxLen; omega) (by omega) (by simp <;> omega) ?_; intro v1 w1 hown1 hg1 hnil1; rw [Nat.zero_add, List.nil_append] at hown1))
    have hb1 : Below (w.heap.size + 2) ((w.alloc (.cells #[.slice (some ⟨g, 0, none⟩) L.length cap, (.slice pm nm cm)] 60)).alloc (.cells #[.slice none 0 0, .slice none 0 0] 60)) w1 := ((Below.refl _ _).alloc (by simp) _).grown hg1 (by simp <;> omega) (fun k hk => by cases hk; exact Nat.le_refl _)
    have HBW := ahid (show Below w.heap.size w ((w.alloc (.cells #[.slice (some ⟨g, 0, none⟩) L.length cap, (.slice pm nm cm)] 60)).alloc (.cells #[.slice none 0 0, .slice none 0 0] 60)) from ((Below.refl _ w).alloc (Nat.le_refl _) _).alloc (by simp) _)
    have HZ0 := ahid (show ((w.alloc (.cells #[.slice (some ⟨g, 0, none⟩) L.length cap, (.slice pm nm cm)] 60)).alloc (.cells #[.slice none 0 0, .slice none 0 0] 60)).heap.size = w.heap.size + 2 by simp)
    clear hg1 hnil1
    generalize ((w.alloc (.cells #[.slice (some ⟨g, 0, none⟩) L.length cap, (.slice pm nm cm)] 60)).alloc (.cells #[.slice none 0 0, .slice none 0 0] 60)) = W0 at *
    have hsz0 : W0.heap.size = w.heap.size + 2 := HZ0.out
    have HB1 := ahid hb1
    have HS : Hid (RPutAt w W0 (.slice (some ⟨g, 0, none⟩) L.length cap) (.slice pm nm cm) L l v1 0 w1) := ahid ⟨by simpa using hown1, fun i x h => by omega, hb1⟩
    clear hb1 hown1 HW1
    go_wp2_with fail
    go_loopw [6, 7] (fun v6 i wr => ∃ (k : Nat) (ov : Value), k ≤ l.length ∧ i = .int .i64 k ∧ ov = v6 ∧ RPutAt w W0 (.slice (some ⟨g, 0, none⟩) L.length cap) (.slice pm nm cm) L l ov k wr) (fun _ i _ => l.length - (intOf i).toNat)
    case atStart => exact ⟨0, _, Nat.zero_le _, rfl, rfl, HS.out⟩
    case round =>
      obtain ⟨k, ov, hk, rfl, rfl, HR⟩ := hrel
      replace HR := ahid HR
      have hbx := HB0.out.keepB HR.out.below (by omega)
      have hrx := HR0.out.keepB HR.out.below (by omega)
      obtain ⟨b0, b1, bf0, bf1⟩ := hbx
      obtain ⟨r0, r1, rf0, rf1⟩ := hrx
      by_cases hlt : k < l.length
      · obtain ⟨x, hx⟩ : ∃ x, l[k]? = some x := ⟨_, List.getElem?_eq_getElem hlt⟩
        obtain rfl := HP.out (by omega)
        have hbw := HBW.out.trans (HR.out.below.mono (by omega))
        have hxi := (HI.out k x hx).keepb hbw
        have hM := rmay_any x hxi.bd wr
        have c0 := hxi.c0
        have c1 := hxi.c1
        have c2 := hxi.c2
        have c3 := hxi.c3
        have c4 := hxi.c4
        have c5 := hxi.c5
        have HX := ahid hx
        have HXI := ahid hxi
        have HBw := ahid hbw
        have hkl : (k : Int) < l.length := by omega
        clear hx hxi hbw
        by_cases hm : mayP x
        · rw [show mayB x = true from decide_eq_true hm] at hM
          have HMM := ahid hM
          have HM := ahid hm
          clear hM hm
          obtain ⟨op, rd, rs1, rs2, is, imm⟩ := x
          go_wp2_with fail
          refine HMM.out.mono ?_
          rintro e w2 ⟨rfl, hb2⟩
          have hxi2 := HXI.out.keepb hb2
          have hown2 := HR.out.own.kept_below hb2 (by have := HR.out.below.size; omega)
          have HB2 := ahid hb2
          clear hb2 c0 c1 c2 c3 c4 c5
          have c0 := hxi2.c0
          have c1 := hxi2.c1
          have c2 := hxi2.c2
          have c3 := hxi2.c3
          have c4 := hxi2.c4
          have c5 := hxi2.c5
          clear hxi2
          have hi := HII.out.1
          go_wp2_with (first | (at_builtin; refine wpList_append_own _ rfl _ _ 57 rfl (w.heap.size + 2) 115 i0 _ 8 32 Tryd.underlying57 hi HII.out.2.1 HII.out.2.2.1 HII.out.2.2.2 rfl (by decide) ov (L.length + k) _ rfl (hown2.alloc _) ⟨w2.heap.size, 0, none⟩ 1 1 [.int .u8 op, .int .u8 rd, .int .u8 rs1, .int .u8 rs2, .bool is, .int .i32 imm, .bool false, .string ⟨#[]⟩] rfl rfl (cells_new w2 _ _) (by simp [Value.oneCell']) (by unfold maxLen; omega) (by omega) (by have := HR.out.below.size; have := HB2.out.size; simp; omega) ?_; intro v3 w3 hown3 hg3 hnil3))
          have hmore := HR.out.more (by omega) HX.out HM.out (HB2.out.alloc HB2.out.size _) hown3 hg3
          go_roundw
          case rel => exact ⟨k + 1, v3, by omega, by go_num, rfl, hmore⟩
          case measure => simp [intOf]; omega
        · rw [show mayB x = false from decide_eq_false hm] at hM
          have HMM := ahid hM
          have HM := ahid hm
          clear hM hm
          obtain ⟨op, rd, rs1, rs2, is, imm⟩ := x
          go_wp2_with fail
          refine HMM.out.mono ?_
          rintro e w2 ⟨rfl, hb2⟩
          have hbx := HB0.out.keepB (HR.out.below.trans (hb2.mono (by have := HR.out.below.size; omega))) (by omega)
          have hrx := HR0.out.keepB (HR.out.below.trans (hb2.mono (by have := HR.out.below.size; omega))) (by omega)
          have HB2 := ahid hb2
          clear hb2 c0 c1 c2 c3 c4 c5 b0 b1 bf0 bf1 r0 r1 rf0 rf1
          obtain ⟨b0, b1, bf0, bf1⟩ := hbx
          obtain ⟨r0, r1, rf0, rf1⟩ := hrx
          go_wp2_with fail
          have hS := (Box2.mk r0 r1 rf0 rf1).set (.slice (some ⟨g, 0, none⟩) L.length cap) (.slice pm nm cm)
          have hbel : Below w.heap.size w ((w2.setCell ⟨w.heap.size + 1, 0, none⟩ (.slice (some ⟨g, 0, none⟩) L.length cap)).setCell ⟨w.heap.size + 1, 1, none⟩ (.slice pm nm cm)) := (((HBW.out.trans (HR.out.below.mono (by omega))).trans (HB2.out.mono (by have := HR.out.below.size; omega))).setCell (by simp) _).setCell (by simp) _
          have HBL := ahid hbel
          have hIt := RPutOk.no (lv := (.slice (some ⟨g, 0, none⟩) L.length cap)) (mv := .slice pm nm cm) (List.mem_of_getElem? HX.out) HM.out (HQ.out.keep hbel) hbel
          clear hbel b0 b1 bf0 bf1 r0 r1 rf0 rf1
          generalize (w2.setCell ⟨w.heap.size + 1, 0, none⟩ (.slice (some ⟨g, 0, none⟩) L.length cap)).setCell ⟨w.heap.size + 1, 1, none⟩ (.slice pm nm cm) = W9 at *
          obtain ⟨s0, s1, _, _⟩ := hS
          refine bodyPost_ret (by simp [results, Tryd.results42, go_sem, s0, s1]; try rfl) rfl ?_
          exact hIt
      · obtain rfl : k = l.length := by omega
        have hkl : ¬ ((l.length : Int) < l.length) := by omega
        have hall : ∀ x ∈ l, mayP x := fun x hx => by
          obtain ⟨i, hi, he⟩ := List.mem_iff_getElem.1 hx
          exact HR.out.may i x hi (by rw [List.getElem?_eq_getElem hi, he])
        have HL := ahid hall
        clear hall
        have hor := HR.out.own.2
        rcases hor with ⟨rfl, _⟩ | ⟨gr, cr, _, rfl, _⟩
        · go_wp2_with fail
          have hS := (Box2.mk r0 r1 rf0 rf1).set (.slice none 0 0) (.slice pm nm cm)
          have hbel : Below w.heap.size w ((wr.setCell ⟨w.heap.size + 1, 0, none⟩ (.slice none 0 0)).setCell ⟨w.heap.size + 1, 1, none⟩ (.slice pm nm cm)) := ((HBW.out.trans (HR.out.below.mono (by omega))).setCell (by simp) _).setCell (by simp) _
          have hfin := HR.out.fin (.slice none 0 0) (.slice pm nm cm)
          have hIt := RPutOk.yes (lv := (.slice (some ⟨g, 0, none⟩) L.length cap)) (mv := .slice pm nm cm) HL.out hfin hbel (fun kk hkk => by have := (HR.out.own.lt kk hkk).1; omega)
          clear hbel hfin b0 b1 bf0 bf1 r0 r1 rf0 rf1
          generalize (wr.setCell ⟨w.heap.size + 1, 0, none⟩ (.slice none 0 0)).setCell ⟨w.heap.size + 1, 1, none⟩ (.slice pm nm cm) = W9 at *
          obtain ⟨s0, s1, _, _⟩ := hS
          refine bodyPost_ret (by simp [results, Tryd.results42, go_sem, s0, s1]; try rfl) rfl ?_
          exact hIt
        · go_wp2_with fail
          have hS := (Box2.mk r0 r1 rf0 rf1).set (.slice (some ⟨gr, 0, none⟩) (L.length + l.length) cr) (.slice pm nm cm)
          have hbel : Below w.heap.size w ((wr.setCell ⟨w.heap.size + 1, 0, none⟩ (.slice (some ⟨gr, 0, none⟩) (L.length + l.length) cr)).setCell ⟨w.heap.size + 1, 1, none⟩ (.slice pm nm cm)) := ((HBW.out.trans (HR.out.below.mono (by omega))).setCell (by simp) _).setCell (by simp) _
          have hfin := HR.out.fin (.slice (some ⟨gr, 0, none⟩) (L.length + l.length) cr) (.slice pm nm cm)
          have hIt := RPutOk.yes (lv := (.slice (some ⟨g, 0, none⟩) L.length cap)) (mv := .slice pm nm cm) HL.out hfin hbel (fun kk hkk => by have := (HR.out.own.lt kk hkk).1; omega)
          clear hbel hfin b0 b1 bf0 bf1 r0 r1 rf0 rf1
          generalize (wr.setCell ⟨w.heap.size + 1, 0, none⟩ (.slice (some ⟨gr, 0, none⟩) (L.length + l.length) cr)).setCell ⟨w.heap.size + 1, 1, none⟩ (.slice pm nm cm) = W9 at *
          obtain ⟨s0, s1, _, _⟩ := hS
          refine bodyPost_ret (by simp [results, Tryd.results42, go_sem, s0, s1]; try rfl) rfl ?_
          exact hIt
end Go.Proofs.YtfbbodaapkfbdaaDoor
