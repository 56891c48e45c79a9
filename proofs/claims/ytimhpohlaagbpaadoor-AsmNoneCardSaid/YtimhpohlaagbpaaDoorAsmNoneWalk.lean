/- The walk of muntinlaw07.AsmNone: no list. -/
import Derived.Test.YtimhpohlaagbpaaDoorAsmHead
namespace Go.Proofs.YtimhpohlaagbpaaDoor
open Go.RowKit Go.Maps
set_option linter.unusedVariables false
set_option linter.unusedSimpArgs false
/-- The boxes of AsmNone. -/
structure NoneAt (W : World) (B : Nat) (what : Int) (xv : Value) (nm : ByteArray) (cond wd : Int) : Prop where
  x : ActBox W B what xv nm cond wd
  m : W.cell? ⟨B + 1, 1, none⟩ = some (.map none)
  l0 : W.cell? ⟨B + 2, 0, none⟩ = some (.pointer none)
  l1 : W.cell? ⟨B + 2, 1, none⟩ = some (.pointer (some ⟨B + 1, 0, none⟩))
theorem NoneAt.lt {W : World} {B : Nat} {what : Int} {xv : Value} {nm : ByteArray} {cond wd : Int} (h : NoneAt W B what xv nm cond wd) : B + 2 < W.heap.size := World.block_lt_of_cell? _ _ h.l0
theorem NoneAt.keep {W W' : World} {B : Nat} {what : Int} {xv : Value} {nm : ByteArray} {cond wd : Int} (h : NoneAt W B what xv nm cond wd) (hb : Below W.heap.size W W') : NoneAt W' B what xv nm cond wd := by
  have hl := h.lt
  exact ⟨h.x.keep (Only.of_below (S := fun _ => False) hb) id, (hb.cell (p := ⟨B + 1, 1, none⟩) (by show B + 1 < _; omega)).trans h.m, (hb.cell (p := ⟨B + 2, 0, none⟩) hl).trans h.l0, (hb.cell (p := ⟨B + 2, 1, none⟩) hl).trans h.l1⟩
theorem NoneAt.new (w : World) (what : Int) (xv : Value) (nm : ByteArray) (cond wd : Int) (t1 t2 t3 : TypeId) : NoneAt (((w.alloc (.cells #[.int .u8 what, xv, .string nm, .int .u8 cond, .int .u32 wd] t1)).alloc (.cells #[.slice none 0 0, .map none] t2)).alloc (.cells #[.pointer none, .pointer (some ⟨w.heap.size + 1, 0, none⟩)] t3)) w.heap.size what xv nm cond wd := by
  have al : ∀ (W : World) (o : Obj), Only (fun _ => False) W (W.alloc o) := fun W o => (Only.refl _ W).alloc o
  have s1 : (w.alloc (.cells #[.int .u8 what, xv, .string nm, .int .u8 cond, .int .u32 wd] t1)).heap.size = w.heap.size + 1 := by simp
  have s2 : ((w.alloc (.cells #[.int .u8 what, xv, .string nm, .int .u8 cond, .int .u32 wd] t1)).alloc (.cells #[.slice none 0 0, .map none] t2)).heap.size = w.heap.size + 2 := by simp
  have h1 := Box2.new (w.alloc (.cells #[.int .u8 what, xv, .string nm, .int .u8 cond, .int .u32 wd] t1)) (.slice none 0 0) (.map none) t2
  have h2 := Box2.new ((w.alloc (.cells #[.int .u8 what, xv, .string nm, .int .u8 cond, .int .u32 wd] t1)).alloc (.cells #[.slice none 0 0, .map none] t2)) (.pointer none) (.pointer (some ⟨w.heap.size + 1, 0, none⟩)) t3
  rw [s1] at h1
  rw [s2] at h2
  exact ⟨((ActBox.new w what xv nm cond wd t1).keep (al _ _) id).keep (al _ _) id, (h1.al _).c1, h2.c0, h2.c1⟩
set_option maxRecDepth 100000 in
set_option maxHeartbeats 4000000 in
theorem walk_AsmNone (what : Int) (xv : Value) (nm : ByteArray) (cond wd : Int) (hxs : ∃ p n c, xv = .slice p n c) (h0 : 0 ≤ wd) (h1 : wd < 4294967296) (w : World) (ht : Tab w) :
    Calls Tryd.prog 5 #[.agg #[.int .u8 what, xv, .string nm, .int .u8 cond, .int .u32 wd]] w fun e w' => e = .returned (.bool true) ∧ Below w.heap.size w w' := by
  obtain ⟨px, nx, cx, rfl⟩ := hxs
  have HT := ahid ht
  clear ht
  have HN0 := ahid (NoneAt.new w what (.slice px nx cx) nm cond wd 38 49 26)
  have HB0 := ahid (show Below w.heap.size w (((w.alloc (.cells #[.int .u8 what, .slice px nx cx, .string nm, .int .u8 cond, .int .u32 wd] 38)).alloc (.cells #[.slice none 0 0, .map none] 49)).alloc (.cells #[.pointer none, .pointer (some ⟨w.heap.size + 1, 0, none⟩)] 26)) from by go_grown)
  go_enter Tryd.func5, Tryd.ntmps5
  go_wp2_with fail
  generalize ((w.alloc (.cells #[.int .u8 what, .slice px nx cx, .string nm, .int .u8 cond, .int .u32 wd] 38)).alloc (.cells #[.slice none 0 0, .map none] 49)).alloc (.cells #[.pointer none, .pointer (some ⟨w.heap.size + 1, 0, none⟩)] 26) = W0 at *
  go_loopw [5] (fun i wr => ∃ k : Nat, k ≤ 2 ∧ i = .int .i64 k ∧ NoneAt wr w.heap.size what (.slice px nx cx) nm cond wd ∧ Below w.heap.size w wr) (fun i _ => 2 - (intOf i).toNat)
  case atStart => exact ⟨0, by omega, rfl, HN0.out, HB0.out⟩
  case round =>
    obtain ⟨k, hk, rfl, hN, hB⟩ := hrel
    have hcs : k = 0 ∨ k = 1 ∨ k = 2 := by omega
    rcases hcs with rfl | rfl | rfl
    · have HN : Hid (∀ W, Below wr.heap.size wr W → Calls Tryd.prog 21 #[.pointer none] W fun e w' => e = .returned (.bool true) ∧ W = w') := ahid (fun W _ => anone_nil W)
      have N := ahid hN
      have HB := ahid hB
      have Bw := ahid (Below.refl wr.heap.size wr)
      obtain ⟨⟨x0, x1, x2, x3, x4⟩, m0, l0, l1⟩ := hN
      clear hB
      go_wp2_with fail
      refine (aat_none wr (.pointer none) nm (HN.out wr (Below.refl _ _))).mono ?_
      rintro e w' ⟨rfl, rfl⟩
      go_wp2_with fail
      refine (awords_none wr (.pointer none) (HN.out wr (Below.refl _ _))).mono ?_
      rintro e w' ⟨rfl, rfl⟩
      go_wp2_with fail
      refine (aput_none wr (.pointer none) _ HN.out).mono ?_
      rintro e w' ⟨rfl, rfl⟩
      go_wp2_with fail
      refine (amark_none wr (.pointer none) nm (HN.out wr (Below.refl _ _))).mono ?_
      rintro e w' ⟨rfl, rfl⟩
      go_wp2_with fail
      refine (ajump_none wr (.pointer none) 0 nm (fun W hW => HN.out W (Bw.out.trans (hW.mono Bw.out.size)))).mono ?_
      rintro e w2 ⟨rfl, hb⟩
      replace N := ahid (N.out.keep hb)
      replace Bw := ahid (Bw.out.trans (hb.mono Bw.out.size))
      clear x0 x1 x2 x3 x4 m0 l0 l1 hb
      obtain ⟨⟨x0, x1, x2, x3, x4⟩, m0, l0, l1⟩ := N.out
      go_wp2_with fail
      refine (acall_none w2 (.pointer none) nm (fun W hW => HN.out W (Bw.out.trans (hW.mono Bw.out.size)))).mono ?_
      rintro e w3 ⟨rfl, hb⟩
      replace N := ahid (N.out.keep hb)
      replace Bw := ahid (Bw.out.trans (hb.mono Bw.out.size))
      clear x0 x1 x2 x3 x4 m0 l0 l1 hb
      obtain ⟨⟨x0, x1, x2, x3, x4⟩, m0, l0, l1⟩ := N.out
      go_wp2_with fail
      refine (aconst_none w3 (.pointer none) 1 wd (by omega) (by omega) h0 h1 (fun W hW => HN.out W (Bw.out.trans (hW.mono Bw.out.size)))).mono ?_
      rintro e w4 ⟨rfl, hb⟩
      replace N := ahid (N.out.keep hb)
      replace Bw := ahid (Bw.out.trans (hb.mono Bw.out.size))
      clear x0 x1 x2 x3 x4 m0 l0 l1 hb
      obtain ⟨⟨x0, x1, x2, x3, x4⟩, m0, l0, l1⟩ := N.out
      go_wp2_with fail
      refine (alen_none w4 (.pointer none) (HN.out w4 Bw.out)).mono ?_
      rintro e w' ⟨rfl, rfl⟩
      go_wp2_with fail
      refine (acopy_none w4 (.pointer none) (HN.out w4 Bw.out)).mono ?_
      rintro e w' ⟨rfl, rfl⟩
      go_wp2_with fail
      go_roundw
      case rel => exact ⟨1, by omega, by go_num, N.out, HB.out.trans (Bw.out.mono HB.out.size)⟩
      case measure => simp [intOf]
    · have HN : Hid (∀ W, Below wr.heap.size wr W → Calls Tryd.prog 21 #[.pointer (some ⟨w.heap.size + 1, 0, none⟩)] W fun e w' => e = .returned (.bool true) ∧ W = w') := ahid (fun W hW => anone_unmade W (w.heap.size + 1) (hN.keep hW).m)
      have N := ahid hN
      have HB := ahid hB
      have Bw := ahid (Below.refl wr.heap.size wr)
      obtain ⟨⟨x0, x1, x2, x3, x4⟩, m0, l0, l1⟩ := hN
      clear hB
      go_wp2_with fail
      refine (aat_none wr (.pointer (some ⟨w.heap.size + 1, 0, none⟩)) nm (HN.out wr (Below.refl _ _))).mono ?_
      rintro e w' ⟨rfl, rfl⟩
      go_wp2_with fail
      refine (awords_none wr (.pointer (some ⟨w.heap.size + 1, 0, none⟩)) (HN.out wr (Below.refl _ _))).mono ?_
      rintro e w' ⟨rfl, rfl⟩
      go_wp2_with fail
      refine (aput_none wr (.pointer (some ⟨w.heap.size + 1, 0, none⟩)) _ HN.out).mono ?_
      rintro e w' ⟨rfl, rfl⟩
      go_wp2_with fail
      refine (amark_none wr (.pointer (some ⟨w.heap.size + 1, 0, none⟩)) nm (HN.out wr (Below.refl _ _))).mono ?_
      rintro e w' ⟨rfl, rfl⟩
      go_wp2_with fail
      refine (ajump_none wr (.pointer (some ⟨w.heap.size + 1, 0, none⟩)) 0 nm (fun W hW => HN.out W (Bw.out.trans (hW.mono Bw.out.size)))).mono ?_
      rintro e w2 ⟨rfl, hb⟩
      replace N := ahid (N.out.keep hb)
      replace Bw := ahid (Bw.out.trans (hb.mono Bw.out.size))
      clear x0 x1 x2 x3 x4 m0 l0 l1 hb
      obtain ⟨⟨x0, x1, x2, x3, x4⟩, m0, l0, l1⟩ := N.out
      go_wp2_with fail
      refine (acall_none w2 (.pointer (some ⟨w.heap.size + 1, 0, none⟩)) nm (fun W hW => HN.out W (Bw.out.trans (hW.mono Bw.out.size)))).mono ?_
      rintro e w3 ⟨rfl, hb⟩
      replace N := ahid (N.out.keep hb)
      replace Bw := ahid (Bw.out.trans (hb.mono Bw.out.size))
      clear x0 x1 x2 x3 x4 m0 l0 l1 hb
      obtain ⟨⟨x0, x1, x2, x3, x4⟩, m0, l0, l1⟩ := N.out
      go_wp2_with fail
      refine (aconst_none w3 (.pointer (some ⟨w.heap.size + 1, 0, none⟩)) 1 wd (by omega) (by omega) h0 h1 (fun W hW => HN.out W (Bw.out.trans (hW.mono Bw.out.size)))).mono ?_
      rintro e w4 ⟨rfl, hb⟩
      replace N := ahid (N.out.keep hb)
      replace Bw := ahid (Bw.out.trans (hb.mono Bw.out.size))
      clear x0 x1 x2 x3 x4 m0 l0 l1 hb
      obtain ⟨⟨x0, x1, x2, x3, x4⟩, m0, l0, l1⟩ := N.out
      go_wp2_with fail
      refine (alen_none w4 (.pointer (some ⟨w.heap.size + 1, 0, none⟩)) (HN.out w4 Bw.out)).mono ?_
      rintro e w' ⟨rfl, rfl⟩
      go_wp2_with fail
      refine (acopy_none w4 (.pointer (some ⟨w.heap.size + 1, 0, none⟩)) (HN.out w4 Bw.out)).mono ?_
      rintro e w' ⟨rfl, rfl⟩
      go_wp2_with fail
      go_roundw
      case rel => exact ⟨2, by omega, by go_num, N.out, HB.out.trans (Bw.out.mono HB.out.size)⟩
      case measure => simp [intOf]
    · have HB := ahid hB
      have HH := ahid (ahead_any7 wr (HT.out.keep hB))
      clear hN hB
      go_wp2_with fail
      refine HH.out.mono ?_
      rintro e w9 ⟨rfl, hb⟩
      have HB9 := ahid (abt HB.out hb)
      clear hb
      go_wp2_with fail
      go_ret
      exact ⟨rfl, HB9.out⟩
end Go.Proofs.YtimhpohlaagbpaaDoor
