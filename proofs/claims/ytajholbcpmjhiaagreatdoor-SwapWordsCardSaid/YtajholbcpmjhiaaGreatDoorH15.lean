/- Several texts in one: PsrPack, PsrPackAny, MachGet, MachDo. -/
import Derived.Test.YtajholbcpmjhiaaGreatDoorH02
import Derived.Test.YtajholbcpmjhiaaGreatDoorH14
import Derived.Test.YtajholbcpmjhiaaGreatDoorH01
import Derived.Test.YtajholbcpmjhiaaGreatDoorH03
import Derived.Test.YtajholbcpmjhiaaGreatDoorH04
import Derived.Test.YtajholbcpmjhiaaGreatDoorH09
import Derived.Test.YtajholbcpmjhiaaGreatDoorH10
import Derived.Test.YtajholbcpmjhiaaGreatDoorH11
import Derived.WalkKit
import Derived.Test.YtajholbcpmjhiaaGreatDoorProg
import Derived.WalkSpells
import Derived.WalkLawsBesides
import Derived.RegionTactic
import Derived.Outline
import Derived.Deep.QuietTactic
import Derived.BigQuiet
import Derived.Handy
import Derived.RangeFuncNested
import Derived.RangeFuncBound
import Derived.RangeFuncCalls
import Derived.RangeFuncLeaves
import Derived.Shelf.Abstract
import Derived.Shelf.RegionOpen
import Derived.OwnWalkIn
import Derived.TacticsInMore
import Derived.LoopNIn
import Derived.LoopIn
import Derived.RegionIn
import Derived.Deep.RegionHeld
import Derived.Laws.AppendOwn
import Derived.Below
import Derived.Lib.BitFns
import Derived.Laws.Rows
import Derived.IntWalk
import Derived.Laws.CopyOwn
import Derived.Great.Ranges
import Derived.StillTailTactics
import Derived.BigRegion
import Derived.Deep.RegionHeld3
import Derived.Deep.Cut
/- The walk of psr.Pack. -/
namespace Go.Proofs.YtajholbcpmjhiaaGreatDoor
open Go.RowKit Go.Shelf
set_option linter.unusedVariables false
set_option linter.unusedSimpArgs false
attribute [local go_sem] Oper.semAt_some
theorem pcal {w : World} {o : Obj} {p : Addr} {v : Value} (h : w.cell? p = some v) : (w.alloc o).cell? p = some v := ((pbal w o).cell (World.block_lt_of_cell? _ _ h)).trans h
def partP (p : Px) (i : Fin 4) : Int := if i.val = 0 then p.cwp else if i.val = 1 then p.pil else if i.val = 2 then p.bank else p.flags
/-- What is laid when some parts have come. -/
def stP (p : Px) (x : Int × Int) (i : Fin 4) : Int × Int := (bits .or .u32 x.1 (partP p i * 2 ^ x.2.toNat % 4294967296), x.2 + bitsP i)
def accP (p : Px) (pre : List (Fin 4)) : Int × Int := pre.foldl (stP p) (0, 0)
theorem accP_snoc (p : Px) (pre : List (Fin 4)) (i : Fin 4) : accP p (pre ++ [i]) = stP p (accP p pre) i := by unfold accP; rw [List.foldl_append]; rfl
/-- A number put behind another one is a sum. -/
theorem por_add {a b : Int} (k : Nat) (hk : k ≤ 32) (ha : 0 ≤ a) (ha2 : a < 2 ^ k) (hb : 0 ≤ b) (hb2 : b < 4294967296) (hd : b % 2 ^ k = 0) : bits .or .u32 a b = a + b := by
  obtain ⟨A, rfl⟩ := Int.eq_ofNat_of_zero_le ha
  obtain ⟨B, rfl⟩ := Int.eq_ofNat_of_zero_le hb
  have hp : (2 : Int) ^ k = ((2 ^ k : Nat) : Int) := by simp
  rw [hp] at hd ha2
  have hp2 : 2 ^ k ≤ 2 ^ 32 := Nat.pow_le_pow_right (by omega) hk
  have hA : A < 2 ^ k := by omega
  have hB : 2 ^ k * (B / 2 ^ k) = B := by
    have h1 : B % 2 ^ k = 0 := by omega
    have h2 := Nat.div_add_mod B (2 ^ k)
    omega
  rw [u32_or _ _ (by omega) (by omega) (by omega) hb2]
  simp only [Int.toNat_natCast]
  rw [Nat.or_comm, ← hB, ← Nat.two_pow_add_eq_or_of_lt hA]
  omega
theorem accP_all {p : Px} {nw : Int} (hb : p.bd) (hw : winP nw) (hm : pmayP p nw) : (accP p [0, 1, 2, 3]).1 = packW p := by
  obtain ⟨cwp, pil, bank, flags⟩ := p
  obtain ⟨⟨a, _⟩, ⟨b, _⟩, ⟨c, _⟩, ⟨d, _⟩⟩ := hb
  obtain ⟨h1, h2, h3, h4⟩ := hm
  obtain ⟨_, hw⟩ := hw
  simp only at *
  show bits .or .u32 (bits .or .u32 (bits .or .u32 (bits .or .u32 0 (cwp * 2 ^ 0 % 4294967296)) (pil * 2 ^ 5 % 4294967296)) (bank * 2 ^ 9 % 4294967296)) (flags * 2 ^ 14 % 4294967296) = packW ⟨cwp, pil, bank, flags⟩
  rw [por_add (a := 0) (b := cwp * 2 ^ 0 % 4294967296) 0 (by omega) (by omega) (by omega) (by omega) (by omega) (by omega)]
  rw [por_add (a := 0 + cwp * 2 ^ 0 % 4294967296) 5 (by omega) (by omega) (by omega) (by omega) (by omega) (by omega)]
  rw [por_add (b := bank * 2 ^ 9 % 4294967296) 9 (by omega) (by omega) (by omega) (by omega) (by omega) (by omega)]
  rw [por_add 14 (by omega) (by omega) (by omega) (by omega) (by omega) (by omega)]
  unfold packW; simp only; omega
theorem pack_round {n b g : Nat} {w W : World} {c0 c1 c2 c3 a' t' : Value} (hn : n ≤ g) (hbg : b < g)
    (hp : W.cell? ⟨b, 0, none⟩ = some c0 ∧ W.cell? ⟨b, 1, none⟩ = some c1 ∧ W.cell? ⟨b, 2, none⟩ = some c2 ∧ W.cell? ⟨b, 3, none⟩ = some c3)
    {a t : Value} (ha : W.cell? ⟨g, 0, none⟩ = some a) (hfa : W.frozen? ⟨g, 0, none⟩ = false) (ht : W.cell? ⟨g + 1, 0, none⟩ = some t) (hft : W.frozen? ⟨g + 1, 0, none⟩ = false) (hB : Below n w W) :
    ((((((W.setCell ⟨g, 0, none⟩ a').setCell ⟨g + 1, 0, none⟩ t').drew).cell? ⟨b, 0, none⟩ = some c0 ∧ (((W.setCell ⟨g, 0, none⟩ a').setCell ⟨g + 1, 0, none⟩ t').drew).cell? ⟨b, 1, none⟩ = some c1 ∧ (((W.setCell ⟨g, 0, none⟩ a').setCell ⟨g + 1, 0, none⟩ t').drew).cell? ⟨b, 2, none⟩ = some c2 ∧ (((W.setCell ⟨g, 0, none⟩ a').setCell ⟨g + 1, 0, none⟩ t').drew).cell? ⟨b, 3, none⟩ = some c3) ∧
      ((((W.setCell ⟨g, 0, none⟩ a').setCell ⟨g + 1, 0, none⟩ t').drew).cell? ⟨g, 0, none⟩ = some a' ∧ (((W.setCell ⟨g, 0, none⟩ a').setCell ⟨g + 1, 0, none⟩ t').drew).frozen? ⟨g, 0, none⟩ = false) ∧
      ((((W.setCell ⟨g, 0, none⟩ a').setCell ⟨g + 1, 0, none⟩ t').drew).cell? ⟨g + 1, 0, none⟩ = some t' ∧ (((W.setCell ⟨g, 0, none⟩ a').setCell ⟨g + 1, 0, none⟩ t').drew).frozen? ⟨g + 1, 0, none⟩ = false))) ∧ Below n w (((W.setCell ⟨g, 0, none⟩ a').setCell ⟨g + 1, 0, none⟩ t').drew) := by
  have far : ∀ i, (((W.setCell ⟨g, 0, none⟩ a').setCell ⟨g + 1, 0, none⟩ t').drew).cell? ⟨b, i, none⟩ = W.cell? ⟨b, i, none⟩ := by
    intro i
    show ((W.setCell ⟨g, 0, none⟩ a').setCell ⟨g + 1, 0, none⟩ t').cell? ⟨b, i, none⟩ = _
    rw [World.cell?_setCell_far _ _ _ _ (by show g + 1 ≠ b; omega), World.cell?_setCell_far _ _ _ _ (by show g ≠ b; omega)]
  have h1 : (W.setCell ⟨g, 0, none⟩ a').cell? ⟨g + 1, 0, none⟩ = some t := by
    rw [World.cell?_setCell_far _ _ _ _ (by show g ≠ g + 1; omega)]; exact ht
  refine ⟨⟨⟨?_, ?_, ?_, ?_⟩, ⟨?_, ?_⟩, ⟨?_, ?_⟩⟩, ?_⟩
  · rw [far]; exact hp.1
  · rw [far]; exact hp.2.1
  · rw [far]; exact hp.2.2.1
  · rw [far]; exact hp.2.2.2
  · show ((W.setCell ⟨g, 0, none⟩ a').setCell ⟨g + 1, 0, none⟩ t').cell? ⟨g, 0, none⟩ = _
    rw [World.cell?_setCell_far _ _ _ _ (by show g + 1 ≠ g; omega)]
    exact World.cell?_setCell_same' _ _ _ (by rw [ha]; rfl)
  · show ((W.setCell ⟨g, 0, none⟩ a').setCell ⟨g + 1, 0, none⟩ t').frozen? ⟨g, 0, none⟩ = _
    rw [World.frozen?_setCell, World.frozen?_setCell]; exact hfa
  · show ((W.setCell ⟨g, 0, none⟩ a').setCell ⟨g + 1, 0, none⟩ t').cell? ⟨g + 1, 0, none⟩ = _
    exact World.cell?_setCell_same' _ _ _ (by rw [h1]; rfl)
  · show ((W.setCell ⟨g, 0, none⟩ a').setCell ⟨g + 1, 0, none⟩ t').frozen? ⟨g + 1, 0, none⟩ = _
    rw [World.frozen?_setCell, World.frozen?_setCell]; exact hft
  · exact ((hB.setCell (p := ⟨g, 0, none⟩) hn _).setCell (p := ⟨g + 1, 0, none⟩) (by show n ≤ g + 1; omega) _).drew
theorem partP_bd {p : Px} (hb : p.bd) (i : Fin 4) : 0 ≤ partP p i ∧ partP p i < 256 := by
  obtain ⟨h0, h1, h2, h3⟩ := hb
  unfold partP; split
  · exact h0
  · split
    · exact h1
    · split
      · exact h2
      · exact h3
theorem bitsP_bd (i : Fin 4) : 4 ≤ bitsP i ∧ bitsP i ≤ 5 := by unfold bitsP; split <;> omega
theorem por_bd {a b : Int} (h : 0 ≤ a) (h' : a < 4294967296) (k : 0 ≤ b) (k' : b < 4294967296) : 0 ≤ bits .or .u32 a b ∧ bits .or .u32 a b < 4294967296 := by
  rw [u32_or a b h h' k k']
  have := Nat.or_lt_two_pow (x := a.toNat) (y := b.toNat) (n := 32) (by omega) (by omega)
  omega
theorem accP_bd (p : Px) (l : List (Fin 4)) : ∀ x : Int × Int, 0 ≤ x.1 ∧ x.1 < 4294967296 → (0 ≤ (l.foldl (stP p) x).1 ∧ (l.foldl (stP p) x).1 < 4294967296) ∧ x.2 ≤ (l.foldl (stP p) x).2 ∧ (l.foldl (stP p) x).2 ≤ x.2 + 5 * l.length := by
  induction l with
  | nil => intro x hx; exact ⟨hx, Int.le_refl _, by simp⟩
  | cons i l ih =>
    intro x hx
    have hi := bitsP_bd i
    have h := ih (stP p x i) (por_bd hx.1 hx.2 (by omega) (by omega))
    simp only [List.foldl_cons, List.length_cons]
    refine ⟨h.1, ?_, ?_⟩
    · have := h.2.1; simp only [stP] at this ⊢; omega
    · have := h.2.2; simp only [stP] at this ⊢; omega
set_option maxRecDepth 100000 in
set_option maxHeartbeats 4000000 in
theorem pack_yes (p : Px) (hb : p.bd) (nw : Int) (hw : winP nw) (hm : pmayP p nw) (w : World) :
    Calls Tryz.prog 124 #[p.agg, .int .i64 nw] w fun e w' => e = .returned (.tuple #[.int .u32 (packW p), .int .i64 0]) ∧ Below w.heap.size w w' := by
  have h1 := windows_any nw
  rw [decide_eq_true hw] at h1
  have h2 := pmay_any p hb nw
  rw [decide_eq_true hm] at h2
  have H1 := phid h1
  have H2 := phid h2
  clear h1 h2
  have HB := phid hb
  clear hb
  obtain ⟨cwp, pil, bank, flags⟩ := p
  refine (callsIn_wide (n := 6)).1 ?_
  refine callsIn_of_wp_marks Tryz.func124 rfl trivial ?_ rfl
  simp only [Tryz.ntmps124, List.size_toArray, List.length_cons, List.length_nil, Nat.reduceAdd, Nat.reduceSub, Array.replicate_succ, Array.replicate_zero, List.push_toArray, List.append_toArray, List.nil_append, List.cons_append]
  gi_wp2_with fail
  refine ⟨trivial, (callsIn_wide.2 (H1.out _)).mono ?_⟩
  rintro e w' ⟨rfl, rfl⟩
  gi_wp2_with fail
  refine ⟨trivial, (callsIn_wide.2 (H2.out _)).mono ?_⟩
  rintro e w1 ⟨rfl, hb1⟩
  have hc0 := hb1.cell (p := ⟨w.heap.size, 0, none⟩) (by simp)
  have hc1 := hb1.cell (p := ⟨w.heap.size, 1, none⟩) (by simp)
  have hc2 := hb1.cell (p := ⟨w.heap.size, 2, none⟩) (by simp)
  have hc3 := hb1.cell (p := ⟨w.heap.size, 3, none⟩) (by simp)
  simp at hc0 hc1 hc2 hc3
  have hlt : w.heap.size < w1.heap.size := by have := hb1.size; simp at this; omega
  have B1 := phid (pbt (pbal w _) hb1)
  clear hb1
  gi_wp2_with fail
  refine ⟨trivial, (callsIn_wide.2 (parts_any _ _)).mono ?_⟩
  rintro e w' ⟨rfl, rfl⟩
  gi_wp2_with fail
  have BW : Below w.heap.size w (((w1.alloc (.cells #[.int .u32 0] 24)).alloc (.cells #[.int .i64 0] 3)).alloc (.cells #[.pointer (some ⟨w.heap.size, 0, none⟩)] 226)) :=
    pbt (pbt (pbt B1.out (pbal _ _)) (pbal _ _)) (pbal _ _)
  refine wpIn_rangeFunc_ownF rfl (by omega) (gf := 209) (lb := #[.pointer (some ⟨w1.heap.size + 1 + 1, 0, none⟩)]) rfl trivial (enters_of Tryz.func209 (by kernel_rfl) rfl)
    (parts_stops 5 (by omega) (w1.heap.size + 1 + 1) w.heap.size _ (by simp [go_sem])) (fun _ _ => trivial) (fun _ _ _ _ _ _ _ _ => trivial) (Below.refl _ _) (fun _ => rfl)
    (fun pre W => ((W.cell? ⟨w.heap.size, 0, none⟩ = some (.int .u8 cwp) ∧ W.cell? ⟨w.heap.size, 1, none⟩ = some (.int .u8 pil) ∧ W.cell? ⟨w.heap.size, 2, none⟩ = some (.int .u8 bank) ∧ W.cell? ⟨w.heap.size, 3, none⟩ = some (.int .u8 flags)) ∧
      (W.cell? ⟨w1.heap.size, 0, none⟩ = some (.int .u32 (accP ⟨cwp, pil, bank, flags⟩ pre).1) ∧ W.frozen? ⟨w1.heap.size, 0, none⟩ = false) ∧
      (W.cell? ⟨w1.heap.size + 1, 0, none⟩ = some (.int .i64 (accP ⟨cwp, pil, bank, flags⟩ pre).2) ∧ W.frozen? ⟨w1.heap.size + 1, 0, none⟩ = false)) ∧ Below w.heap.size w W)
    (fun _ _ _ => False)
    (OwnFrom.and (Own.from (fun s A B row hs hg hr => ⟨⟨cell_kept hs.1.1 hg hr, cell_kept hs.1.2.1 hg hr, cell_kept hs.1.2.2.1 hg hr, cell_kept hs.1.2.2.2 hg hr⟩, ⟨cell_kept hs.2.1.1 hg hr, (frozen_kept hs.2.1.1 hg hr).trans hs.2.1.2⟩, ⟨cell_kept hs.2.2.1 hg hr, (frozen_kept hs.2.2.1 hg hr).trans hs.2.2.2⟩⟩) _) (ownFrom_below (Nat.le_refl _) (by simp; omega)))
    (fun _ _ _ _ _ hs _ _ => hs)
    ⟨⟨⟨pcal (pcal (pcal hc0)), pcal (pcal (pcal hc1)), pcal (pcal (pcal hc2)), pcal (pcal (pcal hc3))⟩, ⟨by simp [go_sem, accP], by simp [go_sem]⟩, ⟨by simp [go_sem, accP], by simp [go_sem]⟩⟩, BW⟩
    (fun x => { tmps := #[.agg #[.int .u8 cwp, .int .u8 pil, .int .u8 bank, .int .u8 flags], .int .i64 nw, .pointer (some ⟨w.heap.size, 0, none⟩), undef, .int .u32 0, .int .i64 0, .pointer (some ⟨w1.heap.size, 0, none⟩), .pointer (some ⟨w1.heap.size + 1, 0, none⟩), .pointer (some ⟨w.heap.size, x.val, none⟩), .int .i64 (bitsP x), .int .i64 nw, .bool true, .bool false, .bool false, .agg #[.int .u8 cwp, .int .u8 pil, .int .u8 bank, .int .u8 flags], .int .i64 nw, .bool true, .bool false, .bool false, .func (.func 209) #[] #[.pointer (some ⟨w1.heap.size + 1 + 1, 0, none⟩)], .pointer (some ⟨w.heap.size, x.val, none⟩), .int .i64 (bitsP x), undef, undef, undef, undef, undef, undef, undef, undef, undef, undef, undef, undef], defers := [] }) ?assign ?body ?done ?stop
  case assign =>
    intro l x W K hK
    gi_wp2
    exact hK
  case body =>
    rintro l pre x W ⟨⟨⟨p0, p1, p2, p3⟩, ⟨ha, hfa⟩, ⟨ht, hft⟩⟩, hB⟩ hlen
    have hpart : W.cell? ⟨w.heap.size, x.val, none⟩ = some (.int .u8 (partP ⟨cwp, pil, bank, flags⟩ x)) := by
      match x with
      | 0 => exact p0
      | 1 => exact p1
      | 2 => exact p2
      | 3 => exact p3
    have hbd := accP_bd ⟨cwp, pil, bank, flags⟩ pre (0, 0) ⟨by simp, by simp⟩
    have hpb := partP_bd HB.out x
    have hbb := bitsP_bd x
    have hs1 : (accP ⟨cwp, pil, bank, flags⟩ (pre ++ [x])).1 = bits .or .u32 (accP ⟨cwp, pil, bank, flags⟩ pre).1 (partP ⟨cwp, pil, bank, flags⟩ x * 2 ^ (accP ⟨cwp, pil, bank, flags⟩ pre).2.toNat % 4294967296) := by rw [accP_snoc]; rfl
    have hs2 : (accP ⟨cwp, pil, bank, flags⟩ (pre ++ [x])).2 = (accP ⟨cwp, pil, bank, flags⟩ pre).2 + bitsP x := by rw [accP_snoc]; rfl
    have P4 := phid (And.intro p0 (And.intro p1 (And.intro p2 p3)))
    have hB' := phid hB
    have hbd2 : (0 : Int) ≤ (accP ⟨cwp, pil, bank, flags⟩ pre).2 ∧ (accP ⟨cwp, pil, bank, flags⟩ pre).2 ≤ 0 + 5 * (pre.length : Int) := hbd.2
    have hbd1 : (0 : Int) ≤ (accP ⟨cwp, pil, bank, flags⟩ pre).1 ∧ (accP ⟨cwp, pil, bank, flags⟩ pre).1 < 4294967296 := hbd.1
    clear p0 p1 p2 p3 hB hbd
    generalize partP ⟨cwp, pil, bank, flags⟩ x = v at hpart hpb hs1
    generalize (accP ⟨cwp, pil, bank, flags⟩ pre).1 = a at ha hs1 hbd1
    generalize (accP ⟨cwp, pil, bank, flags⟩ pre).2 = t at ht hs1 hs2 hbd2
    have HS := phid (And.intro hs1 hs2)
    clear hs1 hs2
    have hmix : Tryz.prog.follows .mixedOrders = true := by kernel_rfl
    gi_wp2
    gi_region_with_o (fail)
    all_goals gi_wp2
    all_goals
      refine ⟨KeepsOthers.trans (KeepsOthers.trans (KeepsOthers.setCell _ _ _) (KeepsOthers.setCell _ _ _)) (KeepsOthers.drew _), trivial, ?_⟩
      have e := pack_round (a' := .int .u32 (bits .or .u32 a (v * 2 ^ t.toNat % 4294967296))) (t' := .int .i64 (t + bitsP x)) (Nat.le_of_lt hlt) hlt P4.out ha hfa ht hft hB'.out
      rw [← HS.out.1, ← HS.out.2] at e ⊢
      exact e
  case done =>
    rintro D ys W hD rfl ⟨⟨hp, ⟨ha, hfa⟩, ⟨ht, hft⟩⟩, hB⟩ hK
    have E := phid (accP_all HB.out hw hm)
    gi_wp2
    refine ⟨by simp, .inl ⟨_, _, rfl, run_takeDeferred hK, ?_⟩⟩
    refine ⟨.tuple #[.int .u32 (accP ⟨cwp, pil, bank, flags⟩ [0, 1, 2, 3]).1, .int .i64 0], by simp [results, Tryz.results124, go_sem], pret2 E.out rfl, ?_⟩
    exact hB.trans (belowK_b (w := w) (Nat.le_refl _) W D _ _ (by simp [go_sem] at hD; omega) hK rfl rfl)
  case stop =>
    rintro D c pre W _ _ h _
    exact h.elim
end Go.Proofs.YtajholbcpmjhiaaGreatDoor
/- psr.Pack, whatever the state and the windows are. -/
namespace Go.Proofs.YtajholbcpmjhiaaGreatDoor
open Go.RowKit Go.Shelf
set_option linter.unusedVariables false
set_option linter.unusedSimpArgs false
set_option maxRecDepth 100000 in
set_option maxHeartbeats 1000000 in
theorem pack_any (p : Px) (hb : p.bd) (nw : Int) (w : World) :
    Calls Tryz.prog 124 #[p.agg, .int .i64 nw] w fun e w' => e = .returned (.tuple #[.int .u32 (packS p nw), .int .i64 (packE p nw)]) ∧ Below w.heap.size w w' := by
  by_cases h : winP nw ∧ pmayP p nw
  · rw [show packS p nw = packW p from if_pos h, show packE p nw = 0 from if_pos h]
    exact pack_yes p hb nw h.1 h.2 w
  · rw [show packS p nw = 0 from if_neg h, show packE p nw = 2 from if_neg h]
    have hq := windows_any nw
    by_cases hw : winP nw
    · have hm := pmay_any p hb nw
      rw [decide_eq_true hw] at hq
      rw [decide_eq_false (fun hm => h ⟨hw, hm⟩)] at hm
      have H1 := phid hq
      have H2 := phid hm
      clear hq hm hw h hb
      obtain ⟨cwp, pil, bank, flags⟩ := p
      go_enter Tryz.func124, Tryz.ntmps124
      go_wp2_with fail
      refine (H1.out _).mono ?_
      rintro e w' ⟨rfl, rfl⟩
      go_wp2_with fail
      refine (H2.out _).mono ?_
      rintro e w' ⟨rfl, hB⟩
      have HB := phid hB
      clear hB
      go_wp2_with fail
      go_ret2
      exact ⟨rfl, pbt (pbal _ _) HB.out⟩
    · rw [decide_eq_false hw] at hq
      have H1 := phid hq
      clear hq hw h hb
      obtain ⟨cwp, pil, bank, flags⟩ := p
      go_enter Tryz.func124, Tryz.ntmps124
      go_wp2_with fail
      refine (H1.out _).mono ?_
      rintro e w' ⟨rfl, rfl⟩
      go_wp2_with fail
      go_ret2
      exact ⟨rfl, by go_grown⟩
end Go.Proofs.YtajholbcpmjhiaaGreatDoor
/- The walks of the machine's small functions: none, get, set, halt, trap. -/
namespace Go.Proofs.YtajholbcpmjhiaaGreatDoor
open Go.RowKit
set_option linter.unusedVariables false
set_option linter.unusedSimpArgs false
theorem mmnone_made (w : World) (M : Nat) (a : Addr) (h : w.cell? ⟨M, 1, none⟩ = some (.pointer (some a))) : Calls Tryz.prog 57 #[.pointer (some ⟨M, 0, none⟩)] w fun e w' => e = .returned (.bool false) ∧ w = w' := by
  go_enter Tryz.func57, Tryz.ntmps57
  go_wp2
  go_ret
  exact ⟨rfl, rfl⟩
/-- A register of the machine is one of its file. -/
theorem regOk_of {m : Mx} (h : m.ok) {r : Int} (h0 : 0 ≤ r) (h1 : r < 32) : regOk m.f m.p.cwp m.p.bank r := ⟨h.cwp, h.bank, h0, h1⟩
set_option maxRecDepth 100000 in
set_option maxHeartbeats 1000000 in
theorem mget_any (w : World) (G : MG) (M : Nat) (m : Mx) (h : MachAt w G M m) (r : Int) (h0 : 0 ≤ r) (h1 : r < 32) :
    Calls Tryz.prog 157 #[.pointer (some ⟨M, 0, none⟩), .int .u8 r] w fun e w' => e = .returned (.int .u32 (getM m r)) ∧ ∃ n, w' = w.drewN n := by
  have hr := regOk_of h.ok h0 h1
  have HF := mhid (fun n => (fget_any (w.drewN n) G.F G.Wb G.wc m.f (h.file.keepb ((Only.refl (fun _ => False) w).drewN n |>.below (Nat.le_refl _) (fun _ _ => id))) m.p.cwp m.p.bank r))
  have HE := mhid (show getV m.f m.p.cwp m.p.bank r = getM m r ∧ regE m.f m.p.cwp m.p.bank r = 0 from ⟨if_pos hr, if_pos hr⟩)
  have hc := h.mc
  obtain ⟨c1, c5, c7⟩ : w.cell? ⟨M, 1, none⟩ = some (.pointer (some ⟨G.F, 0, none⟩)) ∧ w.cell? ⟨M, 5, none⟩ = some (.int .u8 m.p.cwp) ∧ w.cell? ⟨M, 7, none⟩ = some (.int .u8 m.p.bank) := ⟨hc.f, hc.cwp, hc.bank⟩
  have b1 := h.ok.cwp
  have b2 := h.ok.bank
  have b3 := h.ok.win.2
  clear hc h hr
  generalize m.p.cwp = cw at *
  generalize m.p.bank = bk at *
  have f1 : IntKind.i64.wrap cw = cw := IntWalk.i64_in _ (by omega)
  have f2 : IntKind.i64.wrap bk = bk := IntWalk.i64_in _ (by omega)
  have f3 : IntKind.i64.wrap r = r := IntWalk.i64_in _ (by omega)
  go_enter Tryz.func157, Tryz.ntmps157
  go_wp2_with fail
  go_quiet ((go_at_call 14; exact Calls.quiet_of (HF.out _)))
  go_wp2_with fail
  go_ret
  exact ⟨mret_i HE.out.1, _, rfl⟩
set_option maxRecDepth 100000 in
set_option maxHeartbeats 1000000 in
theorem mset_any (w : World) (G : MG) (M : Nat) (m : Mx) (h : MachAt w G M m) (r x : Int) (h0 : 0 ≤ r) (h1 : r < 32) (hx : 0 ≤ x ∧ x < 4294967296) :
    Calls Tryz.prog 182 #[.pointer (some ⟨M, 0, none⟩), .int .u8 r, .int .u32 x] w fun e w' => e = .returned (.tuple #[]) ∧ MachAt w' G M (setM m r x) ∧ Only (fun k => k = G.F ∨ k = G.Wb) w w' := by
  have hr := regOk_of h.ok h0 h1
  have hd : Below w.heap.size w w.drew := (Below.refl _ _).drew
  have HM := mhid (h.keepb hd)
  have HF := mhid (fset_any w.drew G.F G.Wb G.wc m.f (h.file.keepb hd) m.p.cwp m.p.bank r x hx)
  have HE := mhid (show setV m.f m.p.cwp m.p.bank r x = (setM m r x).f ∧ regE m.f m.p.cwp m.p.bank r = 0 from ⟨if_pos hr, if_pos hr⟩)
  have HK := mhid (setM_ok h.ok r hx)
  have hc := h.mc
  obtain ⟨c1, c5, c7⟩ : w.cell? ⟨M, 1, none⟩ = some (.pointer (some ⟨G.F, 0, none⟩)) ∧ w.cell? ⟨M, 5, none⟩ = some (.int .u8 m.p.cwp) ∧ w.cell? ⟨M, 7, none⟩ = some (.int .u8 m.p.bank) := ⟨hc.f, hc.cwp, hc.bank⟩
  have b1 := h.ok.cwp
  have b2 := h.ok.bank
  have b3 := h.ok.win.2
  clear hc h hr hd
  generalize hcw : m.p.cwp = cw at c5 HF HE b1
  generalize hbk : m.p.bank = bk at c7 HF HE b2
  have HW := mhid (And.intro hcw hbk)
  clear hcw hbk
  have f1 : IntKind.i64.wrap cw = cw := IntWalk.i64_in _ (by omega)
  have f2 : IntKind.i64.wrap bk = bk := IntWalk.i64_in _ (by omega)
  have f3 : IntKind.i64.wrap r = r := IntWalk.i64_in _ (by omega)
  go_enter Tryz.func182, Tryz.ntmps182
  go_wp2_with fail
  go_still_tail 19, (by kernel_rfl)
  change wpList _ _ _ _ _ w.drew
  go_wp2_with fail
  refine HF.out.mono ?_
  rintro e w' ⟨rfl, hf, ho, hs⟩
  rw [HE.out.1] at hf
  have hm := HM.out.file' ho hf (setF_nw _ _ _ _ _) HK.out
  have ho2 : Only (fun k => k = G.F ∨ k = G.Wb) w w' := ((Only.refl _ w).drew).trans ho
  clear hf ho hs
  go_wp2_with fail
  go_returns
  exact ⟨rfl, hm, ho2⟩
set_option maxHeartbeats 1000000 in
theorem mhalt_any (w : World) (G : MG) (M : Nat) (m : Mx) (h : MachAt w G M m) (k v : Int) (hk : 0 ≤ k ∧ k < 256) (hv : 0 ≤ v ∧ v < 4294967296) :
    Calls Tryz.prog 110 #[.pointer (some ⟨M, 0, none⟩), .int .u8 k, .int .u32 v] w fun e w' => e = .returned (.tuple #[]) ∧ MachAt w' G M (haltM m k v) ∧ Only (fun k => k = M) w w' := by
  have H := mhid (show MachAt ((w.setCell ⟨M, 45, none⟩ (.int .u8 k)).setCell ⟨M, 46, none⟩ (.int .u32 v)) G M (haltM m k v) from (h.setKind hk).setV hv)
  have c1 := h.mc.kind
  have c2 := h.mc.v
  have f1 := h.mc.fz 45
  have f2 := h.mc.fz 46
  clear h
  go_enter Tryz.func110, Tryz.ntmps110
  go_wp2_with fail
  go_returns
  exact ⟨rfl, H.out, ((Only.refl (fun k => k = M) w).setCell (p := ⟨M, 45, none⟩) rfl _).setCell (p := ⟨M, 46, none⟩) rfl _⟩
set_option maxRecDepth 100000 in
set_option maxHeartbeats 2000000 in
theorem mtrap_any (w : World) (G : MG) (M : Nat) (m : Mx) (h : MachAt w G M m) (bank kind pc : Int) (hb : 0 ≤ bank ∧ bank < 17) (hk : 0 ≤ kind ∧ kind < 256) (hp : 0 ≤ pc ∧ pc < 4294967296) :
    Calls Tryz.prog 108 #[.pointer (some ⟨M, 0, none⟩), .int .u8 bank, .int .u8 kind, .int .u32 pc] w fun e w' => e = .returned (.tuple #[]) ∧ MachAt w' G M (trapM m bank kind pc) ∧ Only (fun k => k = M) w w' := by
  have hd : Below w.heap.size w w.drew := (Below.refl _ _).drew
  have HP := mhid (fun w' => pack_any m.p h.ok.pb m.f.nw w')
  have HB := mhid (packS_bd (nw := m.nw) h.ok.pb)
  have hc := h.mc
  obtain ⟨c0, c5, c6, c7, c8⟩ : w.cell? ⟨M, 0, none⟩ = some (.int .i64 m.f.nw) ∧ w.cell? ⟨M, 5, none⟩ = some (.int .u8 m.p.cwp) ∧ w.cell? ⟨M, 6, none⟩ = some (.int .u8 m.p.pil) ∧ w.cell? ⟨M, 7, none⟩ = some (.int .u8 m.p.bank) ∧ w.cell? ⟨M, 8, none⟩ = some (.int .u8 m.p.flags) := ⟨hc.nw, hc.cwp, hc.pil, hc.bank, hc.flags⟩
  have H := mhid h
  have HS := mhid (show ∀ w', Below w.heap.size w w' → w'.cell? ⟨M, 0, none⟩ = some (.int .i64 m.f.nw) ∧ w'.cell? ⟨M, 5, none⟩ = some (.int .u8 m.p.cwp) ∧ w'.cell? ⟨M, 6, none⟩ = some (.int .u8 m.p.pil) ∧ w'.cell? ⟨M, 7, none⟩ = some (.int .u8 m.p.bank) ∧ w'.cell? ⟨M, 8, none⟩ = some (.int .u8 m.p.flags) from fun w' hb => by
    have hc := (h.keepb hb).mc
    exact ⟨hc.nw, hc.cwp, hc.pil, hc.bank, hc.flags⟩)
  obtain ⟨b, rfl⟩ := Int.eq_ofNat_of_zero_le hb.1
  have hb17 : b < 17 := by omega
  have hb16 : (b : Int) < 17 := by omega
  have hb0 : (0 : Int) ≤ (b : Int) := by omega
  have u1 : IntKind.u32.wrap kind = kind := by rw [IntKind.wrap_u32]; omega
  have u2 : IntKind.u32.wrap (16 * kind) = 16 * kind := by rw [IntKind.wrap_u32]; omega
  have u3 : IntKind.u32.wrap (256 + 16 * kind) = 256 + 16 * kind := by rw [IntKind.wrap_u32]; omega
  clear hc h
  go_enter Tryz.func108, Tryz.ntmps108
  go_wp2_with fail
  go_region_held3 (fun w' => w'.cell? ⟨M, 0, none⟩ = some (.int .i64 m.f.nw) ∧ w'.cell? ⟨M, 5, none⟩ = some (.int .u8 m.p.cwp) ∧ w'.cell? ⟨M, 6, none⟩ = some (.int .u8 m.p.pil) ∧ w'.cell? ⟨M, 7, none⟩ = some (.int .u8 m.p.bank) ∧ w'.cell? ⟨M, 8, none⟩ = some (.int .u8 m.p.flags)) (first | (with_reducible exact ⟨c0, c5, c6, c7, c8⟩) | (refine HS.out _ ?_; go_grown; done))
    ((go_at_call 124; (with_reducible refine (HP.out _).mono ?_); rintro e W1 ⟨rfl, hb10⟩; have hb1 : Below w.heap.size w W1 := hd.trans (hb10.mono hd.size)))
  clear c0 c5 c6 c7 c8
  have H1 := mhid (H.out.keepb hb1)
  have HO := mhid (show Only (fun k => k = M) w W1 from Only.of_below hb1)
  clear hb1 hb10 hd HS HP H
  have ca := H1.out.tpcc hb17
  have cb := H1.out.tpsrc hb17
  have fa := H1.out.mc.fz (9 + b)
  have fb := H1.out.mc.fz (26 + b)
  have HW := mhid (show packS m.p m.f.nw = packS m.p m.nw from rfl)
  have hw := HB.out
  generalize hpw : packS m.p m.nw = pw at *
  rw [HW.out]
  have HPW := mhid hpw
  clear hpw
  go_wp2_with fail
  go_region
  have h2 := (H1.out.setTpc hb17 hp).setTpsr (m := { m with tpc := m.tpc.set b pc }) hb17 hw
  have h3 := h2.keepb ((Below.refl _ _).drew)
  have o3 : Only (fun k => k = M) w ((W1.setCell ⟨M, 9 + b, none⟩ (.int .u32 pc)).setCell ⟨M, 26 + b, none⟩ (.int .u32 pw)).drew := ((HO.out.setCell (p := ⟨M, 9 + b, none⟩) rfl _).setCell (p := ⟨M, 26 + b, none⟩) rfl _).drew
  clear h2 ca cb fa fb
  generalize ((W1.setCell ⟨M, 9 + b, none⟩ (.int .u32 pc)).setCell ⟨M, 26 + b, none⟩ (.int .u32 pw)).drew = W2 at *
  have HO3 := mhid o3
  have c7 := h3.mc.bank
  have c3 := h3.mc.pc
  have f7 := h3.mc.fz 7
  have f3 := h3.mc.fz 3
  have H3 := mhid h3
  clear h3 o3
  go_wp2_with fail
  go_returns
  refine ⟨rfl, ?_, (HO3.out.setCell (p := ⟨M, 7, none⟩) rfl _).setCell (p := ⟨M, 3, none⟩) rfl _⟩
  have h4 := (H3.out.setBank (x := (b : Int)) (by omega)).setPc (x := 256 + 16 * kind) (by omega)
  unfold trapM
  rw [HPW.out, Int.toNat_natCast]
  exact h4
end Go.Proofs.YtajholbcpmjhiaaGreatDoor
/- The machine's instructions at hand: what they are given, what they leave; the walks of window, sure. -/
namespace Go.Proofs.YtajholbcpmjhiaaGreatDoor
open Go.RowKit
set_option linter.unusedVariables false
set_option linter.unusedSimpArgs false
/-- An instruction at hand, at block D. -/
def DAt (w : World) (D M : Nat) (x : Ix) (a b n : Int) : Prop :=
  ARow w D 176 [.pointer (some ⟨M, 0, none⟩), .int .u8 x.op, .int .u8 x.rd, .int .u8 x.rs1, .int .u8 x.rs2, .bool x.is, .int .i32 x.imm, .int .u32 a, .int .u32 b, .int .u32 n]
structure DoIn (w : World) (G : MG) (M : Nat) (m : Mx) (D : Nat) (x : Ix) (a b n : Int) : Prop where
  mach : MachAt w G M m
  d : DAt w D M x a b n
  rD : G.R D = .none
  fits : x.fits
  ha : 0 ≤ a ∧ a < 4294967296
  hb : 0 ≤ b ∧ b < 4294967296
  hn : 0 ≤ n ∧ n < 4294967296
  run : m.kind = 0
/-- The PC goes on, if the machine runs. -/
def finM (m : Mx) (n : Int) : Mx := if m.kind = 0 then { m with pc := n } else m
/-- What an instruction leaves, of which the machine comes to be r. -/
def DoEnd (w : World) (G : MG) (M D : Nat) (x : Ix) (a b : Int) (r : Mx) (w' : World) : Prop :=
  ∃ G' m1 n1, MachAt w' G' M m1 ∧ DAt w' D M x a b n1 ∧ Only (fun k => G.own k ∨ k = D) w w' ∧ (∀ k, k < w.heap.size → G'.R k = G.R k) ∧ (0 ≤ n1 ∧ n1 < 4294967296) ∧ finM m1 n1 = r
section
variable {w : World} {G : MG} {M : Nat} {m : Mx} {D : Nat} {x : Ix} {a b n : Int}
theorem DAt.keep {C : Nat → Prop} {w' : World} (h : DAt w D M x a b n) (o : Only C w w') (hD : ¬ C D) : DAt w' D M x a b n := ARow.of_block h (o.block D (ARow.lt h) hD)
theorem DAt.setNext (h : DAt w D M x a b n) (n' : Int) : DAt (w.setCell ⟨D, 9, none⟩ (.int .u32 n')) D M x a b n' := ARow.set h 9 _
theorem DoIn.keepb {w' : World} (h : DoIn w G M m D x a b n) (hb : Below w.heap.size w w') : DoIn w' G M m D x a b n :=
  ⟨h.mach.keepb hb, h.d.keep (Only.of_below (S := fun _ => False) hb) id, h.rD, h.fits, h.ha, h.hb, h.hn, h.run⟩
theorem DoIn.drew (h : DoIn w G M m D x a b n) : DoIn w.drew G M m D x a b n := h.keepb ((Below.refl _ _).drew)
theorem DoIn.ne (h : DoIn w G M m D x a b n) : ¬ D = M ∧ ¬ D = G.F ∧ ¬ D = G.Wb ∧ ¬ D = G.gB := by
  have r := h.rD
  refine ⟨fun e => ?_, fun e => ?_, fun e => ?_, fun e => ?_⟩
  · rw [e, h.mach.rM] at r; cases r
  · rw [e, h.mach.rF] at r; cases r
  · rw [e, h.mach.rW] at r; cases r
  · rw [e, h.mach.rg] at r; cases r
theorem MachAt.ownM (h : MachAt w G M m) : G.own M := ⟨by rw [h.rM]; simp, by rw [h.rM]; simp⟩
theorem MachAt.ownF (h : MachAt w G M m) : G.own G.F := ⟨by rw [h.rF]; simp, by rw [h.rF]; simp⟩
theorem MachAt.ownW (h : MachAt w G M m) : G.own G.Wb := ⟨by rw [h.rW]; simp, by rw [h.rW]; simp⟩
theorem MachAt.owng (h : MachAt w G M m) : G.own G.gB := ⟨by rw [h.rg]; simp, by rw [h.rg]; simp⟩
/-- The cells that instructions read. -/
structure DCells (w : World) (G : MG) (M : Nat) (m : Mx) (D : Nat) (x : Ix) (a b n : Int) : Prop where
  d0 : w.cell? ⟨D, 0, none⟩ = some (.pointer (some ⟨M, 0, none⟩))
  d1 : w.cell? ⟨D, 1, none⟩ = some (.int .u8 x.op)
  d2 : w.cell? ⟨D, 2, none⟩ = some (.int .u8 x.rd)
  d3 : w.cell? ⟨D, 3, none⟩ = some (.int .u8 x.rs1)
  d5 : w.cell? ⟨D, 5, none⟩ = some (.bool x.is)
  d6 : w.cell? ⟨D, 6, none⟩ = some (.int .i32 x.imm)
  d7 : w.cell? ⟨D, 7, none⟩ = some (.int .u32 a)
  d8 : w.cell? ⟨D, 8, none⟩ = some (.int .u32 b)
  d9 : w.cell? ⟨D, 9, none⟩ = some (.int .u32 n)
  fd : w.frozen? ⟨D, 9, none⟩ = false
theorem DAt.dc (h : DAt w D M x a b n) : DCells w G M m D x a b n :=
  ⟨ARow.cell h (k := 0) rfl, ARow.cell h (k := 1) rfl, ARow.cell h (k := 2) rfl, ARow.cell h (k := 3) rfl, ARow.cell h (k := 5) rfl, ARow.cell h (k := 6) rfl, ARow.cell h (k := 7) rfl, ARow.cell h (k := 8) rfl, ARow.cell h (k := 9) rfl, ARow.frozen h 9⟩
theorem DoIn.dc (h : DoIn w G M m D x a b n) : DCells w G M m D x a b n := DAt.dc h.d
/-! Ends. -/
theorem DoEnd.of {w' : World} {m1 : Mx} {r : Mx} {n1 : Int} (hm : MachAt w' G M m1) (hd : DAt w' D M x a b n1) (o : Only (fun k => G.own k ∨ k = D) w w') (hn : 0 ≤ n1 ∧ n1 < 4294967296) (hf : finM m1 n1 = r) : DoEnd w G M D x a b r w' :=
  ⟨G, m1, n1, hm, hd, o, fun _ _ => rfl, hn, hf⟩
theorem finM_run {m : Mx} {n : Int} (h : m.kind = 0) : finM m n = { m with pc := n } := if_pos h
theorem finM_halt (m : Mx) (k v n : Int) (hk : k ≠ 0) : finM (haltM m k v) n = haltM m k v := if_neg hk
/-- The machine has changed, the instruction has not. -/
theorem DoIn.fin {w0 w' : World} {C : Nat → Prop} {m1 r : Mx} (h : DoIn w G M m D x a b n) (o0 : Only (fun k => G.own k ∨ k = D) w0 w) (hm : MachAt w' G M m1) (o : Only C w w') (hC : ∀ k, C k → G.own k) (hf : finM m1 n = r) : DoEnd w0 G M D x a b r w' := by
  have hD : ¬ C D := fun hc => (hC D hc).1 h.rD
  exact DoEnd.of hm (h.d.keep o hD) (o0.trans (o.mono (fun k _ hk => .inl (hC k hk)))) h.hn hf
end
set_option maxHeartbeats 1000000 in
theorem dsure_no (w : World) (G : MG) (M : Nat) (m : Mx) (D : Nat) (x : Ix) (a b n : Int) (h : DoIn w G M m D x a b n) :
    Calls Tryz.prog 203 #[.pointer (some ⟨D, 0, none⟩), .int .i64 0] w fun e w' => e = .returned (.bool true) ∧ w = w' := by
  go_enter Tryz.func203, Tryz.ntmps203
  go_wp2_with fail
  go_ret
  exact ⟨rfl, rfl⟩
set_option maxHeartbeats 1000000 in
theorem dsure_yes (w : World) (G : MG) (M : Nat) (m : Mx) (D : Nat) (x : Ix) (a b n : Int) (h : DoIn w G M m D x a b n) (er : Int) (he : er ≠ 0) :
    Calls Tryz.prog 203 #[.pointer (some ⟨D, 0, none⟩), .int .i64 er] w fun e w' => e = .returned (.bool false) ∧ MachAt w' G M (haltM m 3 0) ∧ Only (fun k => k = M) w w' := by
  have HH := mhid (mhalt_any w G M m h.mach 3 0 (by omega) (by omega))
  have d0 := h.dc.d0
  have e1 : (er != 0) = true := by simpa using he
  have e2 : (er == 0) = false := by simpa using he
  clear h he
  go_enter Tryz.func203, Tryz.ntmps203
  go_wp2_with fail
  refine HH.out.mono ?_
  rintro e w' ⟨rfl, hm, ho⟩
  go_wp2_with fail
  go_ret
  exact ⟨rfl, hm, ho⟩
set_option maxHeartbeats 1000000 in
theorem dwindow_any (w : World) (G : MG) (M : Nat) (m : Mx) (D : Nat) (x : Ix) (a b n : Int) (h : DoIn w G M m D x a b n) (kind pc : Int) (hk : 0 ≤ kind ∧ kind < 256) (hp : 0 ≤ pc ∧ pc < 4294967296) :
    Calls Tryz.prog 205 #[.pointer (some ⟨D, 0, none⟩), .int .u8 kind, .int .u32 pc] w fun e w' => e = .returned (.tuple #[]) ∧ DoEnd w G M D x a b (winM m kind pc) w' := by
  have d0 := h.dc.d0
  have c7 := h.mach.mc.bank
  have H := mhid h
  by_cases hz : m.p.bank = 0
  · have HT := mhid (mtrap_any w G M m h.mach 16 kind pc (by omega) hk hp)
    have HE := mhid (show winM m kind pc = trapM m 16 kind pc from if_pos hz)
    have e1 : (m.p.bank != 0) = false := by simp [hz]
    have HC := mhid (show ∀ w', MachAt w' G M (trapM m 16 kind pc) → Only (fun k => k = M) w w' → w'.cell? ⟨D, 0, none⟩ = some (.pointer (some ⟨M, 0, none⟩)) ∧ w'.cell? ⟨M, 3, none⟩ = some (.int .u32 (256 + 16 * kind)) ∧ w'.cell? ⟨D, 9, none⟩ = some (.int .u32 n) ∧ w'.frozen? ⟨D, 9, none⟩ = false from fun w' hm ho => by
      have hd := DAt.dc (G := G) (m := m) (h.d.keep ho h.ne.1)
      exact ⟨hd.d0, hm.mc.pc, hd.d9, hd.fd⟩)
    clear h hz
    generalize m.p.bank = bk at *
    go_enter Tryz.func205, Tryz.ntmps205
    go_wp2_with fail
    refine HT.out.mono ?_
    rintro e w1 ⟨rfl, hm, ho⟩
    obtain ⟨q0, q3, q9, qf⟩ := HC.out w1 hm ho
    have HM := mhid (And.intro hm ho)
    clear hm ho d0 c7
    go_wp2_with fail
    go_returns
    refine ⟨rfl, ?_⟩
    rw [HE.out]
    have hD : DAt w1 D M x a b n := H.out.d.keep HM.out.2 H.out.ne.1
    refine DoEnd.of (m1 := trapM m 16 kind pc) (HM.out.1.keep ((Only.refl (fun k => k = D) w1).setCell (p := ⟨D, 9, none⟩) rfl _) (fun k hk e => hk (by rw [e]; exact H.out.rD))) (hD.setNext _) (((HM.out.2.mono (fun k _ e => .inl (e ▸ H.out.mach.ownM))).setCell (p := ⟨D, 9, none⟩) (.inr rfl) _)) (by omega) ?_
    exact finM_run H.out.run
  · have HT := mhid (mhalt_any w G M m h.mach 3 0 (by omega) (by omega))
    have HE := mhid (show winM m kind pc = haltM m 3 0 from if_neg hz)
    have e1 : (m.p.bank != 0) = true := by simpa using hz
    clear h hz
    generalize m.p.bank = bk at *
    go_enter Tryz.func205, Tryz.ntmps205
    go_wp2_with fail
    refine HT.out.mono ?_
    rintro e w1 ⟨rfl, hm, ho⟩
    go_wp2_with fail
    go_returns
    refine ⟨rfl, ?_⟩
    rw [HE.out]
    exact H.out.fin (Only.refl _ _) hm ho (fun k e => e ▸ H.out.mach.ownM) (finM_halt _ _ _ _ (by omega))
end Go.Proofs.YtajholbcpmjhiaaGreatDoor
