/- The walk of muntinref14.Reads. -/
import Derived.Test.YthahjnjkiljaaaaShapeApp
namespace Go.Proofs.Ythahjnjkiljaaaa
open Go.RowKit
set_option linter.unusedVariables false
set_option linter.unusedSimpArgs false
/-- The cells of an instruction's box, that the walks read. -/
structure IBox (w : World) (g : Nat) (x : Insx) (av : Value) : Prop where
  lt : g < w.heap.size
  c0 : w.cell? ⟨g, 0, none⟩ = some (.int .u8 x.op)
  c1 : w.cell? ⟨g, 1, none⟩ = some (.int .i64 x.d)
  c2 : w.cell? ⟨g, 2, none⟩ = some (.int .i64 x.a)
  c3 : w.cell? ⟨g, 3, none⟩ = some (.int .i64 x.b)
  c4 : w.cell? ⟨g, 4, none⟩ = some (.int .u32 x.n)
  c5 : w.cell? ⟨g, 5, none⟩ = some (.int .i64 x.f)
  c6 : w.cell? ⟨g, 6, none⟩ = some av
  c7 : w.cell? ⟨g, 7, none⟩ = some (.int .i64 x.l1)
  c8 : w.cell? ⟨g, 8, none⟩ = some (.int .i64 x.l2)
theorem IBox.new (w : World) (x : Insx) (av : Value) (t : TypeId) : IBox (w.alloc (.cells #[.int .u8 x.op, .int .i64 x.d, .int .i64 x.a, .int .i64 x.b, .int .u32 x.n, .int .i64 x.f, av, .int .i64 x.l1, .int .i64 x.l2] t)) w.heap.size x av := by
  have h := fun i => cell_of_obj (i := i) (heap_alloc_new w (.cells #[.int .u8 x.op, .int .i64 x.d, .int .i64 x.a, .int .i64 x.b, .int .u32 x.n, .int .i64 x.f, av, .int .i64 x.l1, .int .i64 x.l2] t))
  exact ⟨by simp, h 0, h 1, h 2, h 3, h 4, h 5, h 6, h 7, h 8⟩
theorem IBox.only {S : Nat → Prop} {w w' : World} {g : Nat} {x : Insx} {av : Value} (h : IBox w g x av) (o : Only S w w') (hs : ¬ S g) : IBox w' g x av :=
  ⟨Nat.lt_of_lt_of_le h.lt o.size, (o.cell (p := ⟨g, 0, none⟩) h.lt hs).trans h.c0, (o.cell (p := ⟨g, 1, none⟩) h.lt hs).trans h.c1, (o.cell (p := ⟨g, 2, none⟩) h.lt hs).trans h.c2, (o.cell (p := ⟨g, 3, none⟩) h.lt hs).trans h.c3, (o.cell (p := ⟨g, 4, none⟩) h.lt hs).trans h.c4,
    (o.cell (p := ⟨g, 5, none⟩) h.lt hs).trans h.c5, (o.cell (p := ⟨g, 6, none⟩) h.lt hs).trans h.c6, (o.cell (p := ⟨g, 7, none⟩) h.lt hs).trans h.c7, (o.cell (p := ⟨g, 8, none⟩) h.lt hs).trans h.c8⟩
theorem IBox.keep {w w' : World} {g : Nat} {x : Insx} {av : Value} (h : IBox w g x av) (hb : Below w.heap.size w w') : IBox w' g x av := h.only (S := fun _ => False) (Only.of_below hb) id
theorem IBox.grown {w w' : World} {g : Nat} {x : Insx} {av : Value} {row : Option Nat} (h : IBox w g x av) (hb : w.grownBy w' row) (hr : row ≠ some g) : IBox w' g x av :=
  h.only (S := fun k => row = some k) ((Only.refl _ w).grown hb (fun k hk _ => hk)) hr
theorem grown_below {B : Nat} {a b c : World} {row : Option Nat} (h : Below B a b) (g : b.grownBy c row) (hr : ∀ k, row = some k → B ≤ k) (hB : B ≤ b.heap.size) : Below B a c :=
  h.trans ⟨g.os, g.tape, g.output, g.size, fun k hk => g.block k (Nat.lt_of_lt_of_le hk hB) (fun e => by have := hr k e.symm; omega)⟩
set_option maxRecDepth 100000 in
set_option maxHeartbeats 2000000 in
theorem rreads_any (x : Insx) (hx : x.bd) (p : Option Addr) (n c : Nat) (w : World) (ha : IntsIn w (.slice p n c) x.args) :
    Calls Try.prog 12 #[x.agg (.slice p n c)] w (IntsOwn w (readsS x)) := by
  have hx0 := hx
  obtain ⟨⟨h0, h1⟩, _, xa, xb, _⟩ := hx
  have hL := in_letters h0
  have HX := shid xa
  have HY := shid xb
  have hs := hasS_size x.op
  have HA := shid ha
  have hal := ha.1
  have HBX := shid (IBox.new w x (.slice p n c) 44)
  have HW0 := shid (show Below w.heap.size w (w.alloc (.cells #[.int .u8 x.op, .int .i64 x.d, .int .i64 x.a, .int .i64 x.b, .int .u32 x.n, .int .i64 x.f, .slice p n c, .int .i64 x.l1, .int .i64 x.l2] 44)) from (Below.refl _ _).alloc (Nat.le_refl _) _)
  have HR : Hid (readsS x = if x.op = 1 ∨ x.op = 4 then [x.a, x.b] else if x.op = 2 ∨ x.op = 3 ∨ x.op = 6 ∨ x.op = 9 ∨ x.op = 10 then [x.a] else if x.op = 5 then x.args else []) := shid rfl
  have hcase : (hasA x.op = true ∧ decide (x.op = 1 ∨ x.op = 4) = true ∧ decide (x.op = 5) = false ∧ readsS x = [x.a, x.b]) ∨ (hasA x.op = true ∧ decide (x.op = 1 ∨ x.op = 4) = false ∧ decide (x.op = 5) = false ∧ readsS x = [x.a]) ∨
      (hasA x.op = false ∧ decide (x.op = 1 ∨ x.op = 4) = false ∧ decide (x.op = 5) = true ∧ readsS x = x.args) ∨ (hasA x.op = false ∧ decide (x.op = 1 ∨ x.op = 4) = false ∧ decide (x.op = 5) = false ∧ readsS x = []) := by
    rw [HR.out]
    unfold hasA
    simp only [decide_eq_true_eq, decide_eq_false_iff_not]
    by_cases k1 : x.op = 1 ∨ x.op = 4
    · exact .inl ⟨by omega, k1, by omega, by rw [if_pos k1]⟩
    · by_cases k2 : x.op = 2 ∨ x.op = 3 ∨ x.op = 6 ∨ x.op = 9 ∨ x.op = 10
      · exact .inr (.inl ⟨by omega, k1, by omega, by rw [if_neg k1, if_pos k2]⟩)
      · by_cases k3 : x.op = 5
        · exact .inr (.inr (.inl ⟨by omega, k1, k3, by rw [if_neg k1, if_neg k2, if_pos k3]⟩))
        · exact .inr (.inr (.inr ⟨by omega, k1, k3, by rw [if_neg k1, if_neg k2, if_neg k3]⟩))
  have HI : Hid (inB (hasS x.op) 97 = hasA x.op ∧ inB (hasS x.op) 98 = decide (x.op = 1 ∨ x.op = 4) ∧ inB (hasS x.op) 120 = decide (x.op = 5)) := shid ⟨hL.2.1, hL.2.2.1, hL.2.2.2.2.2.1⟩
  clear hL ha hx0
  unfold Insx.agg
  rcases hcase with ⟨ka, kb, kx, kr⟩ | ⟨ka, kb, kx, kr⟩ | ⟨ka, kb, kx, kr⟩ | ⟨ka, kb, kx, kr⟩
  all_goals
    have HK := shid (And.intro (HI.out.1.trans ka) (And.intro (HI.out.2.1.trans kb) (And.intro (HI.out.2.2.trans kx) kr)))
    clear ka kb kx kr HI
    go_enter Try.func12, Try.ntmps12
    have b0 := HBX.out.c0
    go_wp2_with fail
    clear b0
    generalize w.alloc (.cells #[.int .u8 x.op, .int .i64 x.d, .int .i64 x.a, .int .i64 x.b, .int .u32 x.n, .int .i64 x.f, .slice p n c, .int .i64 x.l1, .int .i64 x.l2] 44) = W0 at *
    refine (rhas_any x.op h0 h1 W0).mono ?_
    rintro e w1 ⟨rfl, hb1⟩
    have HB1 := shid (HBX.out.keep hb1)
    have HW1 := shid (sbt HW0.out hb1)
    clear hb1
    go_wp2_with fail
    refine (in_any (hasS x.op) 97 hs w1).mono ?_
    rintro e w' ⟨rfl, rfl⟩
    rw [HK.out.1]
  · have b2 := HB1.out.c2
    have hz1 := HW1.out.size
    have hlt := HB1.out.lt
    go_wp2_with (at_builtin; refine wpList_append_ints rfl _ _ rfl (w.heap.size + 1) _ [] rfl (World.ownsRow_nil _ _ _ _) _ [x.a] rfl (IntsIn.one _ _ 3 _ HX.out (cell_of_obj (heap_alloc_new w1 _))) (by simp; omega) (by simp) ?_; rw [List.nil_append]; intro v' w2 hown hgrow)
    have HW2 := shid (grown_below (HW1.out.alloc hz1 _) hgrow (by intro k hk; cases hk) (by simp; omega))
    have HB2 := shid ((HB1.out.keep ((Below.refl _ _).alloc (Nat.le_refl _) _)).grown hgrow (fun h => by cases h))
    obtain ⟨p', c', rfl, hsh⟩ := own_shape hown
    have HO := shid hown
    have HS := shid hsh
    clear hown hgrow hsh b2
    go_wp2_with fail
    refine (in_any (hasS x.op) 98 hs w2).mono ?_
    rintro e w' ⟨rfl, rfl⟩
    rw [HK.out.2.1]
    have b3 := HB2.out.c3
    have hz2 := HW2.out.size
    have hlt2 := HB2.out.lt
    go_wp2_with (at_builtin; refine wpList_append_ints rfl _ _ rfl (w.heap.size + 1) _ [x.a] rfl (HO.out.alloc _) _ [x.b] rfl (IntsIn.one _ _ 3 _ HY.out (cell_of_obj (heap_alloc_new w2 _))) (by simp; omega) (by simp) ?_; rw [show [x.a] ++ [x.b] = [x.a, x.b] from rfl]; intro v' w3 hown hgrow)
    have HW3 := shid (grown_below (HW2.out.alloc hz2 _) hgrow (by intro k hk; have := (HS.out k hk).1; omega) (by simp; omega))
    obtain ⟨p3, c3, rfl, hsh⟩ := own_shape hown
    have HO3 := shid hown
    clear hown hgrow hsh b3
    go_wp2_with fail
    refine (in_any (hasS x.op) 120 hs w3).mono ?_
    rintro e w' ⟨rfl, rfl⟩
    rw [HK.out.2.2.1]
    go_wp2_with fail
    go_ret
    exact ⟨_, rfl, by rw [HK.out.2.2.2]; exact ownsRow_low HO3.out (by omega), HW3.out⟩
  · have b2 := HB1.out.c2
    have hz1 := HW1.out.size
    have hlt := HB1.out.lt
    go_wp2_with (at_builtin; refine wpList_append_ints rfl _ _ rfl (w.heap.size + 1) _ [] rfl (World.ownsRow_nil _ _ _ _) _ [x.a] rfl (IntsIn.one _ _ 3 _ HX.out (cell_of_obj (heap_alloc_new w1 _))) (by simp; omega) (by simp) ?_; rw [List.nil_append]; intro v' w2 hown hgrow)
    have HW2 := shid (grown_below (HW1.out.alloc hz1 _) hgrow (by intro k hk; cases hk) (by simp; omega))
    have HB2 := shid ((HB1.out.keep ((Below.refl _ _).alloc (Nat.le_refl _) _)).grown hgrow (fun h => by cases h))
    obtain ⟨p', c', rfl, hsh⟩ := own_shape hown
    have HO := shid hown
    have HS := shid hsh
    clear hown hgrow hsh b2
    go_wp2_with fail
    refine (in_any (hasS x.op) 98 hs w2).mono ?_
    rintro e w' ⟨rfl, rfl⟩
    rw [HK.out.2.1]
    go_wp2_with fail
    refine (in_any (hasS x.op) 120 hs w2).mono ?_
    rintro e w' ⟨rfl, rfl⟩
    rw [HK.out.2.2.1]
    go_wp2_with fail
    go_ret
    exact ⟨_, rfl, by rw [HK.out.2.2.2]; exact ownsRow_low HO.out (by omega), HW2.out⟩
  · go_wp2_with fail
    refine (in_any (hasS x.op) 98 hs w1).mono ?_
    rintro e w' ⟨rfl, rfl⟩
    rw [HK.out.2.1]
    go_wp2_with fail
    refine (in_any (hasS x.op) 120 hs w1).mono ?_
    rintro e w' ⟨rfl, rfl⟩
    rw [HK.out.2.2.1]
    have b6 := HB1.out.c6
    have hz1 := HW1.out.size
    go_wp2_with (at_builtin; refine wpList_append_ints rfl _ _ rfl w.heap.size _ [] rfl (World.ownsRow_nil _ _ _ _) _ x.args rfl (HA.out.keep fun _ _ _ _ hh => hh.keep HW1.out) hz1 (by simp; omega) ?_; rw [List.nil_append]; intro v' w2 hown hgrow)
    have HO := shid (And.intro hown (grown_below HW1.out hgrow (by intro k hk; cases hk) hz1))
    obtain ⟨p', c', rfl, _⟩ := own_shape hown
    clear hown hgrow
    go_wp2_with fail
    go_ret
    exact ⟨_, rfl, by rw [HK.out.2.2.2]; exact HO.out.1, HO.out.2⟩
  · go_wp2_with fail
    refine (in_any (hasS x.op) 98 hs w1).mono ?_
    rintro e w' ⟨rfl, rfl⟩
    rw [HK.out.2.1]
    go_wp2_with fail
    refine (in_any (hasS x.op) 120 hs w1).mono ?_
    rintro e w' ⟨rfl, rfl⟩
    rw [HK.out.2.2.1]
    go_wp2_with fail
    go_ret
    exact ⟨_, rfl, by rw [HK.out.2.2.2]; exact World.ownsRow_nil _ _ _ _, HW1.out⟩
end Go.Proofs.Ythahjnjkiljaaaa
