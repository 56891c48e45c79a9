/- The walk of psr.Pack. -/
import Derived.Test.YtilegepenibeoaaDoorPsrParts
import Derived.Deep.RegionHeld
namespace Go.Proofs.YtilegepenibeoaaDoor
open Go.RowKit Go.Shelf
set_option linter.unusedVariables false
set_option linter.unusedSimpArgs false
attribute [local go_sem] Oper.semAt_some
theorem pcal {w : World} {o : Obj} {p : Addr} {v : Value} (h : w.cell? p = some v) : (w.alloc o).cell? p = some v := ((pbal w o).cell (World.block_lt_of_cell? _ _ h)).trans h
def partP (p : Px) (i : Fin 4) : Int := if i.val = 0 then p.cwp else if i.val = 1 then p.pil else if i.val = 2 then p.bank else p.flags
/-- What is laid when some parts have come. -/
def stP (p : Px) (x : Int × Int) (i : Fin 4) : Int × Int := (bits .or .u32 x.1 (partP p i * 2 ^ x.2.toNat % 4294967296), x.2 + bitsP i)
def accP (p : Px) (pre : List (Fin 4)) : Int × Int := pre.foldl (stP p) (0, 0)
theorem accP_snoc (p : Px) (pre : List (Fin 4)) (i : Fin 4) : accP p (pre ++ [i]) = stP p (accP p pre) i := by unfold accP; rw [List.foldl_append]; rfl
/-- A number put behind another one is a sum. -/
theorem por_add {a b : Int} (k : Nat) (hk : k ≤ 32) (ha : 0 ≤ a) (ha2 : a < 2 ^ k) (hb : 0 ≤ b) (hb2 : b < 4294967296) (hd : b % 2 ^ k = 0) : bits .or .u32 a b = a + b := by
  obtain ⟨A, rfl⟩ := Int.eq_ofNat_of_zero_le ha
  obtain ⟨B, rfl⟩ := Int.eq_ofNat_of_zero_le hb
  have hp : (2 : Int) ^ k = ((2 ^ k : Nat) : Int) := by simp
  rw [hp] at hd ha2
  have hp2 : 2 ^ k ≤ 2 ^ 32 := Nat.pow_le_pow_right (by omega) hk
  have hA : A < 2 ^ k := by omega
  have hB : 2 ^ k * (B / 2 ^ k) = B := by
    have h1 : B % 2 ^ k = 0 := by omega
    have h2 := Nat.div_add_mod B (2 ^ k)
    omega
  rw [u32_or _ _ (by omega) (by omega) (by omega) hb2]
  simp only [Int.toNat_natCast]
  rw [Nat.or_comm, ← hB, ← Nat.two_pow_add_eq_or_of_lt hA]
  omega
theorem accP_all {p : Px} {nw : Int} (hb : p.bd) (hw : winP nw) (hm : pmayP p nw) : (accP p [0, 1, 2, 3]).1 = packW p := by
  obtain ⟨cwp, pil, bank, flags⟩ := p
  obtain ⟨⟨a, _⟩, ⟨b, _⟩, ⟨c, _⟩, ⟨d, _⟩⟩ := hb
  obtain ⟨h1, h2, h3, h4⟩ := hm
  obtain ⟨_, hw⟩ := hw
  simp only at *
  show bits .or .u32 (bits .or .u32 (bits .or .u32 (bits .or .u32 0 (cwp * 2 ^ 0 % 4294967296)) (pil * 2 ^ 5 % 4294967296)) (bank * 2 ^ 9 % 4294967296)) (flags * 2 ^ 14 % 4294967296) = packW ⟨cwp, pil, bank, flags⟩
  rw [por_add (a := 0) (b := cwp * 2 ^ 0 % 4294967296) 0 (by omega) (by omega) (by omega) (by omega) (by omega) (by omega)]
  rw [por_add (a := 0 + cwp * 2 ^ 0 % 4294967296) 5 (by omega) (by omega) (by omega) (by omega) (by omega) (by omega)]
  rw [por_add (b := bank * 2 ^ 9 % 4294967296) 9 (by omega) (by omega) (by omega) (by omega) (by omega) (by omega)]
  rw [por_add 14 (by omega) (by omega) (by omega) (by omega) (by omega) (by omega)]
  unfold packW; simp only; omega
theorem pack_round {n b g : Nat} {w W : World} {c0 c1 c2 c3 a' t' : Value} (hn : n ≤ g) (hbg : b < g)
    (hp : W.cell? ⟨b, 0, none⟩ = some c0 ∧ W.cell? ⟨b, 1, none⟩ = some c1 ∧ W.cell? ⟨b, 2, none⟩ = some c2 ∧ W.cell? ⟨b, 3, none⟩ = some c3)
    {a t : Value} (ha : W.cell? ⟨g, 0, none⟩ = some a) (hfa : W.frozen? ⟨g, 0, none⟩ = false) (ht : W.cell? ⟨g + 1, 0, none⟩ = some t) (hft : W.frozen? ⟨g + 1, 0, none⟩ = false) (hB : Below n w W) :
    ((((((W.setCell ⟨g, 0, none⟩ a').setCell ⟨g + 1, 0, none⟩ t').drew).cell? ⟨b, 0, none⟩ = some c0 ∧ (((W.setCell ⟨g, 0, none⟩ a').setCell ⟨g + 1, 0, none⟩ t').drew).cell? ⟨b, 1, none⟩ = some c1 ∧ (((W.setCell ⟨g, 0, none⟩ a').setCell ⟨g + 1, 0, none⟩ t').drew).cell? ⟨b, 2, none⟩ = some c2 ∧ (((W.setCell ⟨g, 0, none⟩ a').setCell ⟨g + 1, 0, none⟩ t').drew).cell? ⟨b, 3, none⟩ = some c3) ∧
      ((((W.setCell ⟨g, 0, none⟩ a').setCell ⟨g + 1, 0, none⟩ t').drew).cell? ⟨g, 0, none⟩ = some a' ∧ (((W.setCell ⟨g, 0, none⟩ a').setCell ⟨g + 1, 0, none⟩ t').drew).frozen? ⟨g, 0, none⟩ = false) ∧
      ((((W.setCell ⟨g, 0, none⟩ a').setCell ⟨g + 1, 0, none⟩ t').drew).cell? ⟨g + 1, 0, none⟩ = some t' ∧ (((W.setCell ⟨g, 0, none⟩ a').setCell ⟨g + 1, 0, none⟩ t').drew).frozen? ⟨g + 1, 0, none⟩ = false))) ∧ Below n w (((W.setCell ⟨g, 0, none⟩ a').setCell ⟨g + 1, 0, none⟩ t').drew) := by
  have far : ∀ i, (((W.setCell ⟨g, 0, none⟩ a').setCell ⟨g + 1, 0, none⟩ t').drew).cell? ⟨b, i, none⟩ = W.cell? ⟨b, i, none⟩ := by
    intro i
    show ((W.setCell ⟨g, 0, none⟩ a').setCell ⟨g + 1, 0, none⟩ t').cell? ⟨b, i, none⟩ = _
    rw [World.cell?_setCell_far _ _ _ _ (by show g + 1 ≠ b; omega), World.cell?_setCell_far _ _ _ _ (by show g ≠ b; omega)]
  have h1 : (W.setCell ⟨g, 0, none⟩ a').cell? ⟨g + 1, 0, none⟩ = some t := by
    rw [World.cell?_setCell_far _ _ _ _ (by show g ≠ g + 1; omega)]; exact ht
  refine ⟨⟨⟨?_, ?_, ?_, ?_⟩, ⟨?_, ?_⟩, ⟨?_, ?_⟩⟩, ?_⟩
  · rw [far]; exact hp.1
  · rw [far]; exact hp.2.1
  · rw [far]; exact hp.2.2.1
  · rw [far]; exact hp.2.2.2
  · show ((W.setCell ⟨g, 0, none⟩ a').setCell ⟨g + 1, 0, none⟩ t').cell? ⟨g, 0, none⟩ = _
    rw [World.cell?_setCell_far _ _ _ _ (by show g + 1 ≠ g; omega)]
    exact World.cell?_setCell_same' _ _ _ (by rw [ha]; rfl)
  · show ((W.setCell ⟨g, 0, none⟩ a').setCell ⟨g + 1, 0, none⟩ t').frozen? ⟨g, 0, none⟩ = _
    rw [World.frozen?_setCell, World.frozen?_setCell]; exact hfa
  · show ((W.setCell ⟨g, 0, none⟩ a').setCell ⟨g + 1, 0, none⟩ t').cell? ⟨g + 1, 0, none⟩ = _
    exact World.cell?_setCell_same' _ _ _ (by rw [h1]; rfl)
  · show ((W.setCell ⟨g, 0, none⟩ a').setCell ⟨g + 1, 0, none⟩ t').frozen? ⟨g + 1, 0, none⟩ = _
    rw [World.frozen?_setCell, World.frozen?_setCell]; exact hft
  · exact ((hB.setCell (p := ⟨g, 0, none⟩) hn _).setCell (p := ⟨g + 1, 0, none⟩) (by show n ≤ g + 1; omega) _).drew
theorem partP_bd {p : Px} (hb : p.bd) (i : Fin 4) : 0 ≤ partP p i ∧ partP p i < 256 := by
  obtain ⟨h0, h1, h2, h3⟩ := hb
  unfold partP; split
  · exact h0
  · split
    · exact h1
    · split
      · exact h2
      · exact h3
theorem bitsP_bd (i : Fin 4) : 4 ≤ bitsP i ∧ bitsP i ≤ 5 := by unfold bitsP; split <;> omega
theorem por_bd {a b : Int} (h : 0 ≤ a) (h' : a < 4294967296) (k : 0 ≤ b) (k' : b < 4294967296) : 0 ≤ bits .or .u32 a b ∧ bits .or .u32 a b < 4294967296 := by
  rw [u32_or a b h h' k k']
  have := Nat.or_lt_two_pow (x := a.toNat) (y := b.toNat) (n := 32) (by omega) (by omega)
  omega
theorem accP_bd (p : Px) (l : List (Fin 4)) : ∀ x : Int × Int, 0 ≤ x.1 ∧ x.1 < 4294967296 → (0 ≤ (l.foldl (stP p) x).1 ∧ (l.foldl (stP p) x).1 < 4294967296) ∧ x.2 ≤ (l.foldl (stP p) x).2 ∧ (l.foldl (stP p) x).2 ≤ x.2 + 5 * l.length := by
  induction l with
  | nil => intro x hx; exact ⟨hx, Int.le_refl _, by simp⟩
  | cons i l ih =>
    intro x hx
    have hi := bitsP_bd i
    have h := ih (stP p x i) (por_bd hx.1 hx.2 (by omega) (by omega))
    simp only [List.foldl_cons, List.length_cons]
    refine ⟨h.1, ?_, ?_⟩
    · have := h.2.1; simp only [stP] at this ⊢; omega
    · have := h.2.2; simp only [stP] at this ⊢; omega
set_option maxRecDepth 100000 in
set_option maxHeartbeats 4000000 in
theorem pack_yes (p : Px) (hb : p.bd) (nw : Int) (hw : winP nw) (hm : pmayP p nw) (w : World) :
    Calls Tryd.prog 18 #[p.agg, .int .i64 nw] w fun e w' => e = .returned (.tuple #[.int .u32 (packW p), .int .i64 0]) ∧ Below w.heap.size w w' := by
  have h1 := windows_any nw
  rw [decide_eq_true hw] at h1
  have h2 := pmay_any p hb nw
  rw [decide_eq_true hm] at h2
  have H1 := phid h1
  have H2 := phid h2
  clear h1 h2
  have HB := phid hb
  clear hb
  obtain ⟨cwp, pil, bank, flags⟩ := p
  refine (callsIn_wide (n := 6)).1 ?_
  refine callsIn_of_wp_marks Tryd.func18 rfl trivial ?_ rfl
  simp only [Tryd.ntmps18, List.size_toArray, List.length_cons, List.length_nil, Nat.reduceAdd, Nat.reduceSub, Array.replicate_succ, Array.replicate_zero, List.push_toArray, List.append_toArray, List.nil_append, List.cons_append]
  gi_wp2_with fail
  refine ⟨trivial, (callsIn_wide.2 (H1.out _)).mono ?_⟩
  rintro e w' ⟨rfl, rfl⟩
  gi_wp2_with fail
  refine ⟨trivial, (callsIn_wide.2 (H2.out _)).mono ?_⟩
  rintro e w1 ⟨rfl, hb1⟩
  have hc0 := hb1.cell (p := ⟨w.heap.size, 0, none⟩) (by simp)
  have hc1 := hb1.cell (p := ⟨w.heap.size, 1, none⟩) (by simp)
  have hc2 := hb1.cell (p := ⟨w.heap.size, 2, none⟩) (by simp)
  have hc3 := hb1.cell (p := ⟨w.heap.size, 3, none⟩) (by simp)
  simp at hc0 hc1 hc2 hc3
  have hlt : w.heap.size < w1.heap.size := by have := hb1.size; simp at this; omega
  have B1 := phid (pbt (pbal w _) hb1)
  clear hb1
  gi_wp2_with fail
  refine ⟨trivial, (callsIn_wide.2 (parts_any _ _)).mono ?_⟩
  rintro e w' ⟨rfl, rfl⟩
  gi_wp2_with fail
  have BW : Below w.heap.size w (((w1.alloc (.cells #[.int .u32 0] 24)).alloc (.cells #[.int .i64 0] 3)).alloc (.cells #[.pointer (some ⟨w.heap.size, 0, none⟩)] 105)) :=
    pbt (pbt (pbt B1.out (pbal _ _)) (pbal _ _)) (pbal _ _)
  refine wpIn_rangeFunc_ownF rfl (by omega) (gf := 79) (lb := #[.pointer (some ⟨w1.heap.size + 1 + 1, 0, none⟩)]) rfl trivial (enters_of Tryd.func79 (by kernel_rfl) rfl)
    (parts_stops 5 (by omega) (w1.heap.size + 1 + 1) w.heap.size _ (by simp [go_sem])) (fun _ _ => trivial) (fun _ _ _ _ _ _ _ _ => trivial) (Below.refl _ _) (fun _ => rfl)
    (fun pre W => ((W.cell? ⟨w.heap.size, 0, none⟩ = some (.int .u8 cwp) ∧ W.cell? ⟨w.heap.size, 1, none⟩ = some (.int .u8 pil) ∧ W.cell? ⟨w.heap.size, 2, none⟩ = some (.int .u8 bank) ∧ W.cell? ⟨w.heap.size, 3, none⟩ = some (.int .u8 flags)) ∧
      (W.cell? ⟨w1.heap.size, 0, none⟩ = some (.int .u32 (accP ⟨cwp, pil, bank, flags⟩ pre).1) ∧ W.frozen? ⟨w1.heap.size, 0, none⟩ = false) ∧
      (W.cell? ⟨w1.heap.size + 1, 0, none⟩ = some (.int .i64 (accP ⟨cwp, pil, bank, flags⟩ pre).2) ∧ W.frozen? ⟨w1.heap.size + 1, 0, none⟩ = false)) ∧ Below w.heap.size w W)
    (fun _ _ _ => False)
    (OwnFrom.and (Own.from (fun s A B row hs hg hr => ⟨⟨cell_kept hs.1.1 hg hr, cell_kept hs.1.2.1 hg hr, cell_kept hs.1.2.2.1 hg hr, cell_kept hs.1.2.2.2 hg hr⟩, ⟨cell_kept hs.2.1.1 hg hr, (frozen_kept hs.2.1.1 hg hr).trans hs.2.1.2⟩, ⟨cell_kept hs.2.2.1 hg hr, (frozen_kept hs.2.2.1 hg hr).trans hs.2.2.2⟩⟩) _) (ownFrom_below (Nat.le_refl _) (by simp; omega)))
    (fun _ _ _ _ _ hs _ _ => hs)
    ⟨⟨⟨pcal (pcal (pcal hc0)), pcal (pcal (pcal hc1)), pcal (pcal (pcal hc2)), pcal (pcal (pcal hc3))⟩, ⟨by simp [go_sem, accP], by simp [go_sem]⟩, ⟨by simp [go_sem, accP], by simp [go_sem]⟩⟩, BW⟩
    (fun x => { tmps := #[.agg #[.int .u8 cwp, .int .u8 pil, .int .u8 bank, .int .u8 flags], .int .i64 nw, .pointer (some ⟨w.heap.size, 0, none⟩), undef, .int .u32 0, .int .i64 0, .pointer (some ⟨w1.heap.size, 0, none⟩), .pointer (some ⟨w1.heap.size + 1, 0, none⟩), .pointer (some ⟨w.heap.size, x.val, none⟩), .int .i64 (bitsP x), .int .i64 nw, .bool true, .bool false, .bool false, .agg #[.int .u8 cwp, .int .u8 pil, .int .u8 bank, .int .u8 flags], .int .i64 nw, .bool true, .bool false, .bool false, .func (.func 79) #[] #[.pointer (some ⟨w1.heap.size + 1 + 1, 0, none⟩)], .pointer (some ⟨w.heap.size, x.val, none⟩), .int .i64 (bitsP x), undef, undef, undef, undef, undef, undef, undef, undef, undef, undef, undef, undef], defers := [] }) ?assign ?body ?done ?stop
  case assign =>
    intro l x W K hK
    gi_wp2
    exact hK
  case body =>
    rintro l pre x W ⟨⟨⟨p0, p1, p2, p3⟩, ⟨ha, hfa⟩, ⟨ht, hft⟩⟩, hB⟩ hlen
    have hpart : W.cell? ⟨w.heap.size, x.val, none⟩ = some (.int .u8 (partP ⟨cwp, pil, bank, flags⟩ x)) := by
      match x with
      | 0 => exact p0
      | 1 => exact p1
      | 2 => exact p2
      | 3 => exact p3
    have hbd := accP_bd ⟨cwp, pil, bank, flags⟩ pre (0, 0) ⟨by simp, by simp⟩
    have hpb := partP_bd HB.out x
    have hbb := bitsP_bd x
    have hs1 : (accP ⟨cwp, pil, bank, flags⟩ (pre ++ [x])).1 = bits .or .u32 (accP ⟨cwp, pil, bank, flags⟩ pre).1 (partP ⟨cwp, pil, bank, flags⟩ x * 2 ^ (accP ⟨cwp, pil, bank, flags⟩ pre).2.toNat % 4294967296) := by rw [accP_snoc]; rfl
    have hs2 : (accP ⟨cwp, pil, bank, flags⟩ (pre ++ [x])).2 = (accP ⟨cwp, pil, bank, flags⟩ pre).2 + bitsP x := by rw [accP_snoc]; rfl
    have P4 := phid (And.intro p0 (And.intro p1 (And.intro p2 p3)))
    have hB' := phid hB
    have hbd2 : (0 : Int) ≤ (accP ⟨cwp, pil, bank, flags⟩ pre).2 ∧ (accP ⟨cwp, pil, bank, flags⟩ pre).2 ≤ 0 + 5 * (pre.length : Int) := hbd.2
    have hbd1 : (0 : Int) ≤ (accP ⟨cwp, pil, bank, flags⟩ pre).1 ∧ (accP ⟨cwp, pil, bank, flags⟩ pre).1 < 4294967296 := hbd.1
    clear p0 p1 p2 p3 hB hbd
    generalize partP ⟨cwp, pil, bank, flags⟩ x = v at hpart hpb hs1
    generalize (accP ⟨cwp, pil, bank, flags⟩ pre).1 = a at ha hs1 hbd1
    generalize (accP ⟨cwp, pil, bank, flags⟩ pre).2 = t at ht hs1 hs2 hbd2
    have HS := phid (And.intro hs1 hs2)
    clear hs1 hs2
    have hmix : Tryd.prog.follows .mixedOrders = true := by kernel_rfl
    gi_wp2
    gi_region_with_o (fail)
    all_goals gi_wp2
    all_goals
      refine ⟨KeepsOthers.trans (KeepsOthers.trans (KeepsOthers.setCell _ _ _) (KeepsOthers.setCell _ _ _)) (KeepsOthers.drew _), trivial, ?_⟩
      have e := pack_round (a' := .int .u32 (bits .or .u32 a (v * 2 ^ t.toNat % 4294967296))) (t' := .int .i64 (t + bitsP x)) (Nat.le_of_lt hlt) hlt P4.out ha hfa ht hft hB'.out
      rw [← HS.out.1, ← HS.out.2] at e ⊢
      exact e
  case done =>
    rintro D ys W hD rfl ⟨⟨hp, ⟨ha, hfa⟩, ⟨ht, hft⟩⟩, hB⟩ hK
    have E := phid (accP_all HB.out hw hm)
    gi_wp2
    refine ⟨by simp, .inl ⟨_, _, rfl, run_takeDeferred hK, ?_⟩⟩
    refine ⟨.tuple #[.int .u32 (accP ⟨cwp, pil, bank, flags⟩ [0, 1, 2, 3]).1, .int .i64 0], by simp [results, Tryd.results18, go_sem], pret2 E.out rfl, ?_⟩
    exact hB.trans (belowK_b (w := w) (Nat.le_refl _) W D _ _ (by simp [go_sem] at hD; omega) hK rfl rfl)
  case stop =>
    rintro D c pre W _ _ h _
    exact h.elim
end Go.Proofs.YtilegepenibeoaaDoor
