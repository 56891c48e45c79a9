/- Several texts in one: PsrUnpack. -/
import Derived.Test.YtajholbcpmjhiaaGreatDoorH10
set_option linter.unusedVariables false
set_option linter.unusedSimpArgs false
/- The walk of psr.Unpack. -/
namespace Go.Proofs.YtajholbcpmjhiaaGreatDoor
open Go.RowKit Go.Shelf
attribute [local go_sem] Oper.semAt_some
def modP (i : Fin 4) (n : Int) : Int := if i.val = 0 ∨ i.val = 2 then n % 32 else n % 16
def divP (i : Fin 4) (n : Int) : Int := if i.val = 0 ∨ i.val = 2 then n / 32 else n / 16
def stU (x : (Fin 4 → Int) × Int) (i : Fin 4) : (Fin 4 → Int) × Int := (fun j => if j = i then modP i x.2 else x.1 j, divP i x.2)
def accU (n : Int) (pre : List (Fin 4)) : (Fin 4 → Int) × Int := pre.foldl stU (fun _ => 0, n)
theorem accU_snoc (n : Int) (pre : List (Fin 4)) (i : Fin 4) : accU n (pre ++ [i]) = stU (accU n pre) i := by unfold accU; rw [List.foldl_append]; rfl
theorem accU_bd (l : List (Fin 4)) : ∀ x : (Fin 4 → Int) × Int, 0 ≤ x.2 ∧ x.2 < 4294967296 → 0 ≤ (l.foldl stU x).2 ∧ (l.foldl stU x).2 < 4294967296 := by
  induction l with
  | nil => intro x hx; exact hx
  | cons i l ih =>
    intro x hx
    refine ih (stU x i) ?_
    simp only [stU, divP]
    split <;> omega
theorem accU_all (n : Int) : (accU n [0, 1, 2, 3]).1 0 = n % 32 ∧ (accU n [0, 1, 2, 3]).1 1 = n / 32 % 16 ∧ (accU n [0, 1, 2, 3]).1 2 = n / 32 / 16 % 32 ∧ (accU n [0, 1, 2, 3]).1 3 = n / 32 / 16 / 32 % 16 ∧ (accU n [0, 1, 2, 3]).2 = n / 32 / 16 / 32 / 16 := by
  exact ⟨rfl, rfl, rfl, rfl, rfl⟩
theorem un_round {n b g : Nat} {w W : World} {f : Fin 4 → Int} {i : Fin 4} {v : Int} {l l' : Value} (hn : n ≤ b) (hbg : b < g) (hgl : True)
    (hr : ∀ j : Fin 4, W.cell? ⟨b, j.val, none⟩ = some ([Value.int .u8 0, .int .u8 0, .int .u8 0, .int .u8 0].getD j.val undef) ∧ W.frozen? ⟨b, j.val, none⟩ = false)
    (hp : ∀ j : Fin 4, W.cell? ⟨g, j.val, none⟩ = some (.int .u8 (f j)) ∧ W.frozen? ⟨g, j.val, none⟩ = false)
    (hl : W.cell? ⟨g + 1, 0, none⟩ = some l) (hfl : W.frozen? ⟨g + 1, 0, none⟩ = false) (hB : Below n w W) :
    ((∀ j : Fin 4, (((W.setCell ⟨g, i.val, none⟩ (.int .u8 v)).setCell ⟨g + 1, 0, none⟩ l').drew).cell? ⟨b, j.val, none⟩ = some ([Value.int .u8 0, .int .u8 0, .int .u8 0, .int .u8 0].getD j.val undef) ∧ (((W.setCell ⟨g, i.val, none⟩ (.int .u8 v)).setCell ⟨g + 1, 0, none⟩ l').drew).frozen? ⟨b, j.val, none⟩ = false) ∧
    (∀ j : Fin 4, (((W.setCell ⟨g, i.val, none⟩ (.int .u8 v)).setCell ⟨g + 1, 0, none⟩ l').drew).cell? ⟨g, j.val, none⟩ = some (.int .u8 ((fun j => if j = i then v else f j) j)) ∧ (((W.setCell ⟨g, i.val, none⟩ (.int .u8 v)).setCell ⟨g + 1, 0, none⟩ l').drew).frozen? ⟨g, j.val, none⟩ = false) ∧
    (((W.setCell ⟨g, i.val, none⟩ (.int .u8 v)).setCell ⟨g + 1, 0, none⟩ l').drew).cell? ⟨g + 1, 0, none⟩ = some l' ∧ (((W.setCell ⟨g, i.val, none⟩ (.int .u8 v)).setCell ⟨g + 1, 0, none⟩ l').drew).frozen? ⟨g + 1, 0, none⟩ = false) ∧
    Below n w (((W.setCell ⟨g, i.val, none⟩ (.int .u8 v)).setCell ⟨g + 1, 0, none⟩ l').drew) := by
  have hfr : ∀ a, (((W.setCell ⟨g, i.val, none⟩ (.int .u8 v)).setCell ⟨g + 1, 0, none⟩ l').drew).frozen? a = W.frozen? a := by
    intro a
    show ((W.setCell ⟨g, i.val, none⟩ (.int .u8 v)).setCell ⟨g + 1, 0, none⟩ l').frozen? a = _
    rw [World.frozen?_setCell, World.frozen?_setCell]
  refine ⟨⟨fun j => ⟨?_, by rw [hfr]; exact (hr j).2⟩, fun j => ⟨?_, by rw [hfr]; exact (hp j).2⟩, ?_, by rw [hfr]; exact hfl⟩, ?_⟩
  · show ((W.setCell ⟨g, i.val, none⟩ (.int .u8 v)).setCell ⟨g + 1, 0, none⟩ l').cell? ⟨b, j.val, none⟩ = _
    rw [World.cell?_setCell_far _ _ _ _ (by show g + 1 ≠ b; omega), World.cell?_setCell_far _ _ _ _ (by show g ≠ b; omega)]
    exact (hr j).1
  · show ((W.setCell ⟨g, i.val, none⟩ (.int .u8 v)).setCell ⟨g + 1, 0, none⟩ l').cell? ⟨g, j.val, none⟩ = _
    rw [World.cell?_setCell_far _ _ _ _ (by show g + 1 ≠ g; omega)]
    by_cases e : j = i
    · subst e
      simp only [if_true]
      exact World.cell?_setCell_same' _ _ _ (by rw [(hp j).1]; rfl)
    · simp only [if_neg e]
      have hne : (⟨g, i.val, none⟩ : Addr) ≠ ⟨g, j.val, none⟩ := fun h => e (Fin.ext (by have := congrArg Addr.off h; simpa using this.symm))
      exact (World.cell?_setCell_other _ _ _ _ hne).trans (hp j).1
  · show ((W.setCell ⟨g, i.val, none⟩ (.int .u8 v)).setCell ⟨g + 1, 0, none⟩ l').cell? ⟨g + 1, 0, none⟩ = _
    exact World.cell?_setCell_same' _ _ _ (by rw [World.cell?_setCell_far _ _ _ _ (by show g ≠ g + 1; omega), hl]; rfl)
  · exact ((hB.setCell (p := ⟨g, i.val, none⟩) (by show n ≤ g; omega) _).setCell (p := ⟨g + 1, 0, none⟩) (by show n ≤ g + 1; omega) _).drew
theorem forall4 {P : Nat → Prop} (h0 : P 0) (h1 : P 1) (h2 : P 2) (h3 : P 3) : ∀ j : Fin 4, P j.val := fun j => by
  match j with
  | 0 => exact h0
  | 1 => exact h1
  | 2 => exact h2
  | 3 => exact h3
theorem un_fin {n b D : Nat} {w W : World} {v0 v1 v2 v3 : Value} (hn : n ≤ b) (hbD : b < D)
    (hr : ∀ j : Fin 4, (W.cell? ⟨b, j.val, none⟩).isSome = true) (hK : W.heap[D]? = some (.deferred (some []))) (hB : Below n w W) :
    ((((W.setCell ⟨b, 0, none⟩ v0).setCell ⟨b, 1, none⟩ v1).setCell ⟨b, 2, none⟩ v2).setCell ⟨b, 3, none⟩ v3).heap[D]? = some (.deferred (some [])) ∧
    ((((((W.setCell ⟨b, 0, none⟩ v0).setCell ⟨b, 1, none⟩ v1).setCell ⟨b, 2, none⟩ v2).setCell ⟨b, 3, none⟩ v3).putObj D (.deferred none)).cell? ⟨b, 0, none⟩ = some v0 ∧
     (((((W.setCell ⟨b, 0, none⟩ v0).setCell ⟨b, 1, none⟩ v1).setCell ⟨b, 2, none⟩ v2).setCell ⟨b, 3, none⟩ v3).putObj D (.deferred none)).cell? ⟨b, 1, none⟩ = some v1 ∧
     (((((W.setCell ⟨b, 0, none⟩ v0).setCell ⟨b, 1, none⟩ v1).setCell ⟨b, 2, none⟩ v2).setCell ⟨b, 3, none⟩ v3).putObj D (.deferred none)).cell? ⟨b, 2, none⟩ = some v2 ∧
     (((((W.setCell ⟨b, 0, none⟩ v0).setCell ⟨b, 1, none⟩ v1).setCell ⟨b, 2, none⟩ v2).setCell ⟨b, 3, none⟩ v3).putObj D (.deferred none)).cell? ⟨b, 3, none⟩ = some v3) ∧
    Below n w (((((W.setCell ⟨b, 0, none⟩ v0).setCell ⟨b, 1, none⟩ v1).setCell ⟨b, 2, none⟩ v2).setCell ⟨b, 3, none⟩ v3).putObj D (.deferred none)) := by
  have ko := KeepsOthers.trans (KeepsOthers.trans (KeepsOthers.trans (KeepsOthers.setCell W ⟨b, 0, none⟩ v0) (KeepsOthers.setCell _ ⟨b, 1, none⟩ v1)) (KeepsOthers.setCell _ ⟨b, 2, none⟩ v2)) (KeepsOthers.setCell _ ⟨b, 3, none⟩ v3)
  have hK' := ko.same D _ hK rfl
  have ne : ∀ i j : Nat, i ≠ j → (⟨b, i, none⟩ : Addr) ≠ ⟨b, j, none⟩ := fun i j h e => h (congrArg Addr.off e)
  have s1 : ∀ (V : World) (i : Nat) (v : Value) (a : Addr), (V.cell? a).isSome = true → ((V.setCell ⟨b, i, none⟩ v).cell? a).isSome = true := by
    intro V i v a h
    obtain ⟨u, hu⟩ := Option.isSome_iff_exists.1 h
    obtain ⟨u', hu'⟩ := cell?_setCell_some (w := V) (p := ⟨b, i, none⟩) (x := v) (q := a) (v := u) hu
    rw [hu']; rfl
  have put : ∀ {p : Addr} {v : Value}, ((((W.setCell ⟨b, 0, none⟩ v0).setCell ⟨b, 1, none⟩ v1).setCell ⟨b, 2, none⟩ v2).setCell ⟨b, 3, none⟩ v3).cell? p = some v → (((((W.setCell ⟨b, 0, none⟩ v0).setCell ⟨b, 1, none⟩ v1).setCell ⟨b, 2, none⟩ v2).setCell ⟨b, 3, none⟩ v3).putObj D (.deferred none)).cell? p = some v :=
    fun h => cell_kept h (grownBy_putObj' _ D (.deferred none)) (fun r e => by cases e; exact ⟨_, hK', rfl⟩)
  refine ⟨hK', ⟨put ?_, put ?_, put ?_, put ?_⟩, ?_⟩
  · rw [World.cell?_setCell_other _ _ _ _ (ne 3 0 (by decide)), World.cell?_setCell_other _ _ _ _ (ne 2 0 (by decide)), World.cell?_setCell_other _ _ _ _ (ne 1 0 (by decide))]
    exact World.cell?_setCell_same' _ _ _ (hr 0)
  · rw [World.cell?_setCell_other _ _ _ _ (ne 3 1 (by decide)), World.cell?_setCell_other _ _ _ _ (ne 2 1 (by decide))]
    exact World.cell?_setCell_same' _ _ _ (s1 _ _ _ _ (hr 1))
  · rw [World.cell?_setCell_other _ _ _ _ (ne 3 2 (by decide))]
    exact World.cell?_setCell_same' _ _ _ (s1 _ _ _ _ (s1 _ _ _ _ (hr 2)))
  · exact World.cell?_setCell_same' _ _ _ (s1 _ _ _ _ (s1 _ _ _ _ (s1 _ _ _ _ (hr 3))))
  · have hB' := (((hB.setCell (p := ⟨b, 0, none⟩) hn v0).setCell (p := ⟨b, 1, none⟩) hn v1).setCell (p := ⟨b, 2, none⟩) hn v2).setCell (p := ⟨b, 3, none⟩) hn v3
    obtain ⟨u, hu⟩ := Option.isSome_iff_exists.1 (hr 0)
    have hb : b < W.heap.size := World.block_lt_of_cell? _ _ hu
    exact hB'.grown (grownBy_putObj' _ D _) (by simp only [World.size_setCell]; omega) (fun k e => by cases e; omega)
set_option maxRecDepth 100000 in
set_option maxHeartbeats 4000000 in
theorem unpack_win (w0 : Int) (h0 : 0 ≤ w0) (h1 : w0 < 4294967296) (nw : Int) (hw : winP nw) (w : World) :
    Calls Tryz.prog 202 #[.int .u32 w0, .int .i64 nw] w fun e w' => e = .returned (.tuple #[(unS w0 nw).agg, .int .i64 (unE w0 nw)]) ∧ Below w.heap.size w w' := by
  have h1 := windows_any nw
  rw [decide_eq_true hw] at h1
  have H1 := phid h1
  clear h1
  refine (callsIn_wide (n := 6)).1 ?_
  refine callsIn_of_wp_marks Tryz.func202 rfl trivial ?_ rfl
  simp only [Tryz.ntmps202, List.size_toArray, List.length_cons, List.length_nil, Nat.reduceAdd, Nat.reduceSub, Array.replicate_succ, Array.replicate_zero, List.push_toArray, List.append_toArray, List.nil_append, List.cons_append]
  gi_wp2_with fail
  refine ⟨trivial, (callsIn_wide.2 (H1.out _)).mono ?_⟩
  rintro e w' ⟨rfl, rfl⟩
  gi_wp2_with fail
  refine ⟨trivial, (callsIn_wide.2 (parts_any _ _)).mono ?_⟩
  rintro e w' ⟨rfl, rfl⟩
  gi_wp2_with fail
  have BW : Below w.heap.size w ((((w.alloc (.cells #[.int .u8 0, .int .u8 0, .int .u8 0, .int .u8 0] 47)).alloc (.cells #[.int .u8 0, .int .u8 0, .int .u8 0, .int .u8 0] 47)).alloc (.cells #[.int .u32 w0] 24)).alloc (.cells #[.pointer (some ⟨w.heap.size + 1, 0, none⟩)] 226)) :=
    pbt (pbt (pbt (pbal _ _) (pbal _ _)) (pbal _ _)) (pbal _ _)
  refine wpIn_rangeFunc_ownF rfl (by omega) (gf := 209) (lb := #[.pointer (some ⟨w.heap.size + 1 + 1 + 1, 0, none⟩)]) rfl trivial (enters_of Tryz.func209 (by kernel_rfl) rfl)
    (parts_stops 5 (by omega) (w.heap.size + 1 + 1 + 1) (w.heap.size + 1) _ (by simp [go_sem])) (fun _ _ => trivial) (fun _ _ _ _ _ _ _ _ => trivial) (Below.refl _ _) (fun _ => rfl)
    (fun pre W => ((∀ j : Fin 4, W.cell? ⟨w.heap.size, j.val, none⟩ = some ([Value.int .u8 0, .int .u8 0, .int .u8 0, .int .u8 0].getD j.val undef) ∧ W.frozen? ⟨w.heap.size, j.val, none⟩ = false) ∧
      (∀ j : Fin 4, W.cell? ⟨w.heap.size + 1, j.val, none⟩ = some (.int .u8 ((accU w0 pre).1 j)) ∧ W.frozen? ⟨w.heap.size + 1, j.val, none⟩ = false) ∧
      W.cell? ⟨w.heap.size + 1 + 1, 0, none⟩ = some (.int .u32 (accU w0 pre).2) ∧ W.frozen? ⟨w.heap.size + 1 + 1, 0, none⟩ = false) ∧ Below w.heap.size w W)
    (fun _ _ _ => False)
    (OwnFrom.and (Own.from (fun s A B row hs hg hr => ⟨fun j => ⟨cell_kept (hs.1 j).1 hg hr, (frozen_kept (hs.1 j).1 hg hr).trans (hs.1 j).2⟩, fun j => ⟨cell_kept (hs.2.1 j).1 hg hr, (frozen_kept (hs.2.1 j).1 hg hr).trans (hs.2.1 j).2⟩, cell_kept hs.2.2.1 hg hr, (frozen_kept hs.2.2.1 hg hr).trans hs.2.2.2⟩) _) (ownFrom_below (Nat.le_refl _) (by simp; omega)))
    (fun _ _ _ _ _ hs _ _ => hs)
    ⟨⟨?start0, ?start1, by simp [go_sem, accU], by simp [go_sem]⟩, BW⟩
    (fun x => { tmps := #[.int .u32 w0, .int .i64 nw, undef, undef, .pointer (some ⟨w.heap.size, 0, none⟩), .int .i64 0, .pointer (some ⟨w.heap.size + 1, 0, none⟩), .pointer (some ⟨w.heap.size + 1 + 1, 0, none⟩), .pointer (some ⟨w.heap.size + 1, x.val, none⟩), .int .i64 (bitsP x), .int .i64 nw, .bool true, .bool false, undef, .int .u32 w0, .func (.func 209) #[] #[.pointer (some ⟨w.heap.size + 1 + 1 + 1, 0, none⟩)], .pointer (some ⟨w.heap.size + 1, x.val, none⟩), .int .i64 (bitsP x), undef, undef, undef, undef, undef, undef, undef, undef, undef, undef, undef, undef, undef, undef, undef, undef, undef, undef, undef, undef, undef], defers := [] }) ?assign ?body ?done ?stop
  case start0 =>
    exact forall4 (P := fun k => ((((w.alloc (.cells #[.int .u8 0, .int .u8 0, .int .u8 0, .int .u8 0] 47)).alloc (.cells #[.int .u8 0, .int .u8 0, .int .u8 0, .int .u8 0] 47)).alloc (.cells #[.int .u32 w0] 24)).alloc (.cells #[.pointer (some ⟨w.heap.size + 1, 0, none⟩)] 226)).cell? ⟨w.heap.size, k, none⟩ = some ([Value.int .u8 0, .int .u8 0, .int .u8 0, .int .u8 0].getD k undef) ∧ ((((w.alloc (.cells #[.int .u8 0, .int .u8 0, .int .u8 0, .int .u8 0] 47)).alloc (.cells #[.int .u8 0, .int .u8 0, .int .u8 0, .int .u8 0] 47)).alloc (.cells #[.int .u32 w0] 24)).alloc (.cells #[.pointer (some ⟨w.heap.size + 1, 0, none⟩)] 226)).frozen? ⟨w.heap.size, k, none⟩ = false)
      (by simp [go_sem]) (by simp [go_sem]) (by simp [go_sem]) (by simp [go_sem])
  case start1 =>
    exact forall4 (P := fun k => ((((w.alloc (.cells #[.int .u8 0, .int .u8 0, .int .u8 0, .int .u8 0] 47)).alloc (.cells #[.int .u8 0, .int .u8 0, .int .u8 0, .int .u8 0] 47)).alloc (.cells #[.int .u32 w0] 24)).alloc (.cells #[.pointer (some ⟨w.heap.size + 1, 0, none⟩)] 226)).cell? ⟨w.heap.size + 1, k, none⟩ = some (.int .u8 0) ∧ ((((w.alloc (.cells #[.int .u8 0, .int .u8 0, .int .u8 0, .int .u8 0] 47)).alloc (.cells #[.int .u8 0, .int .u8 0, .int .u8 0, .int .u8 0] 47)).alloc (.cells #[.int .u32 w0] 24)).alloc (.cells #[.pointer (some ⟨w.heap.size + 1, 0, none⟩)] 226)).frozen? ⟨w.heap.size + 1, k, none⟩ = false)
      (by simp [go_sem]) (by simp [go_sem]) (by simp [go_sem]) (by simp [go_sem])
  case assign =>
    intro l x W K hK
    gi_wp2
    exact hK
  case body =>
    rintro l pre x W ⟨⟨hr, hp, hl, hfl⟩, hB⟩ hlen
    have hbd := accU_bd pre (fun _ => 0, w0) ⟨h0, by omega⟩
    have hL : (0 : Int) ≤ (accU w0 pre).2 ∧ (accU w0 pre).2 < 4294967296 := hbd
    have hs1 : (accU w0 (pre ++ [x])).1 = fun j => if j = x then modP x (accU w0 pre).2 else (accU w0 pre).1 j := by rw [accU_snoc]; rfl
    have hs2 : (accU w0 (pre ++ [x])).2 = divP x (accU w0 pre).2 := by rw [accU_snoc]; rfl
    have HR := phid hr
    have HP := phid hp
    have HB := phid hB
    have hmix : Tryz.prog.follows .mixedOrders = true := by kernel_rfl
    have hpx := (hp x).1
    have hfx := (hp x).2
    have hLL := phid hl
    generalize (accU w0 pre).2 = L at hl hs1 hs2 hL hLL
    generalize (accU w0 pre).1 = f at hpx hs1 HP hp
    have HS := phid (And.intro hs1 hs2)
    clear hr hp hB hbd hs1 hs2
    have hx : x = 0 ∨ x = 1 ∨ x = 2 ∨ x = 3 := by
      match x with
      | 0 => exact .inl rfl
      | 1 => exact .inr (.inl rfl)
      | 2 => exact .inr (.inr (.inl rfl))
      | 3 => exact .inr (.inr (.inr rfl))
    rcases hx with rfl | rfl | rfl | rfl
    · have em : bits .and .u32 L 31 = L % 32 := by rw [u32_and L 31 hL.1 hL.2 (by omega) (by omega)]; rw [show ((L.toNat &&& (31 : Int).toNat : Nat) : Int) = ((L.toNat % 2 ^ 5 : Nat) : Int) from congrArg _ (Nat.and_two_pow_sub_one_eq_mod L.toNat 5)]; omega
      have eb : 0 ≤ L % 32 ∧ L % 32 < 32 := by omega
      have hpx' : W.cell? ⟨w.heap.size + 1, 0, none⟩ = some (.int .u8 (f 0)) := hpx
      have hfx' : W.frozen? ⟨w.heap.size + 1, 0, none⟩ = false := hfx
      have ev : L % 32 % 256 = L % 32 := by omega
      have EV := phid ev
      have e1 : (accU w0 (pre ++ [0])).1 = fun j => if j = 0 then L % 32 else f j := HS.out.1
      have E1 := phid e1
      clear hpx hfx ev e1
      change Code.wpIn _ _ _ _ _ { tmps := #[_, _, _, _, _, _, _, _, .pointer (some ⟨w.heap.size + 1, 0, none⟩), .int .i64 5, _, _, _, _, _, _, .pointer (some ⟨w.heap.size + 1, 0, none⟩), .int .i64 5, _, _, _, _, _, _, _, _, _, _, _, _, _, _, _, _, _, _, _, _, _], defers := [] } W
      gi_wp2
      gi_region_with_o (fail)
      all_goals gi_wp2
      all_goals
        refine ⟨KeepsOthers.trans (KeepsOthers.trans (KeepsOthers.setCell _ _ _) (KeepsOthers.setCell _ _ _)) (KeepsOthers.drew _), trivial, ?_⟩
        have e := un_round (i := 0) (v := L % 32 % 256) (l' := .int .u32 (L / 32)) (Nat.le_refl _) (Nat.lt_succ_self _) trivial HR.out HP.out hLL.out hfl HB.out
        rw [EV.out] at e ⊢
        dsimp only
        rw [E1.out, HS.out.2]
        exact e
    · have em : bits .and .u32 L 15 = L % 16 := by rw [u32_and L 15 hL.1 hL.2 (by omega) (by omega)]; rw [show ((L.toNat &&& (15 : Int).toNat : Nat) : Int) = ((L.toNat % 2 ^ 4 : Nat) : Int) from congrArg _ (Nat.and_two_pow_sub_one_eq_mod L.toNat 4)]; omega
      have eb : 0 ≤ L % 16 ∧ L % 16 < 16 := by omega
      have hpx' : W.cell? ⟨w.heap.size + 1, 1, none⟩ = some (.int .u8 (f 1)) := hpx
      have hfx' : W.frozen? ⟨w.heap.size + 1, 1, none⟩ = false := hfx
      have ev : L % 16 % 256 = L % 16 := by omega
      have EV := phid ev
      have e1 : (accU w0 (pre ++ [1])).1 = fun j => if j = 1 then L % 16 else f j := HS.out.1
      have E1 := phid e1
      clear hpx hfx ev e1
      change Code.wpIn _ _ _ _ _ { tmps := #[_, _, _, _, _, _, _, _, .pointer (some ⟨w.heap.size + 1, 1, none⟩), .int .i64 4, _, _, _, _, _, _, .pointer (some ⟨w.heap.size + 1, 1, none⟩), .int .i64 4, _, _, _, _, _, _, _, _, _, _, _, _, _, _, _, _, _, _, _, _, _], defers := [] } W
      gi_wp2
      gi_region_with_o (fail)
      all_goals gi_wp2
      all_goals
        refine ⟨KeepsOthers.trans (KeepsOthers.trans (KeepsOthers.setCell _ _ _) (KeepsOthers.setCell _ _ _)) (KeepsOthers.drew _), trivial, ?_⟩
        have e := un_round (i := 1) (v := L % 16 % 256) (l' := .int .u32 (L / 16)) (Nat.le_refl _) (Nat.lt_succ_self _) trivial HR.out HP.out hLL.out hfl HB.out
        rw [EV.out] at e ⊢
        dsimp only
        rw [E1.out, HS.out.2]
        exact e
    · have em : bits .and .u32 L 31 = L % 32 := by rw [u32_and L 31 hL.1 hL.2 (by omega) (by omega)]; rw [show ((L.toNat &&& (31 : Int).toNat : Nat) : Int) = ((L.toNat % 2 ^ 5 : Nat) : Int) from congrArg _ (Nat.and_two_pow_sub_one_eq_mod L.toNat 5)]; omega
      have eb : 0 ≤ L % 32 ∧ L % 32 < 32 := by omega
      have hpx' : W.cell? ⟨w.heap.size + 1, 2, none⟩ = some (.int .u8 (f 2)) := hpx
      have hfx' : W.frozen? ⟨w.heap.size + 1, 2, none⟩ = false := hfx
      have ev : L % 32 % 256 = L % 32 := by omega
      have EV := phid ev
      have e1 : (accU w0 (pre ++ [2])).1 = fun j => if j = 2 then L % 32 else f j := HS.out.1
      have E1 := phid e1
      clear hpx hfx ev e1
      change Code.wpIn _ _ _ _ _ { tmps := #[_, _, _, _, _, _, _, _, .pointer (some ⟨w.heap.size + 1, 2, none⟩), .int .i64 5, _, _, _, _, _, _, .pointer (some ⟨w.heap.size + 1, 2, none⟩), .int .i64 5, _, _, _, _, _, _, _, _, _, _, _, _, _, _, _, _, _, _, _, _, _], defers := [] } W
      gi_wp2
      gi_region_with_o (fail)
      all_goals gi_wp2
      all_goals
        refine ⟨KeepsOthers.trans (KeepsOthers.trans (KeepsOthers.setCell _ _ _) (KeepsOthers.setCell _ _ _)) (KeepsOthers.drew _), trivial, ?_⟩
        have e := un_round (i := 2) (v := L % 32 % 256) (l' := .int .u32 (L / 32)) (Nat.le_refl _) (Nat.lt_succ_self _) trivial HR.out HP.out hLL.out hfl HB.out
        rw [EV.out] at e ⊢
        dsimp only
        rw [E1.out, HS.out.2]
        exact e
    · have em : bits .and .u32 L 15 = L % 16 := by rw [u32_and L 15 hL.1 hL.2 (by omega) (by omega)]; rw [show ((L.toNat &&& (15 : Int).toNat : Nat) : Int) = ((L.toNat % 2 ^ 4 : Nat) : Int) from congrArg _ (Nat.and_two_pow_sub_one_eq_mod L.toNat 4)]; omega
      have eb : 0 ≤ L % 16 ∧ L % 16 < 16 := by omega
      have hpx' : W.cell? ⟨w.heap.size + 1, 3, none⟩ = some (.int .u8 (f 3)) := hpx
      have hfx' : W.frozen? ⟨w.heap.size + 1, 3, none⟩ = false := hfx
      have ev : L % 16 % 256 = L % 16 := by omega
      have EV := phid ev
      have e1 : (accU w0 (pre ++ [3])).1 = fun j => if j = 3 then L % 16 else f j := HS.out.1
      have E1 := phid e1
      clear hpx hfx ev e1
      change Code.wpIn _ _ _ _ _ { tmps := #[_, _, _, _, _, _, _, _, .pointer (some ⟨w.heap.size + 1, 3, none⟩), .int .i64 4, _, _, _, _, _, _, .pointer (some ⟨w.heap.size + 1, 3, none⟩), .int .i64 4, _, _, _, _, _, _, _, _, _, _, _, _, _, _, _, _, _, _, _, _, _], defers := [] } W
      gi_wp2
      gi_region_with_o (fail)
      all_goals gi_wp2
      all_goals
        refine ⟨KeepsOthers.trans (KeepsOthers.trans (KeepsOthers.setCell _ _ _) (KeepsOthers.setCell _ _ _)) (KeepsOthers.drew _), trivial, ?_⟩
        have e := un_round (i := 3) (v := L % 16 % 256) (l' := .int .u32 (L / 16)) (Nat.le_refl _) (Nat.lt_succ_self _) trivial HR.out HP.out hLL.out hfl HB.out
        rw [EV.out] at e ⊢
        dsimp only
        rw [E1.out, HS.out.2]
        exact e
  case done =>
    rintro D ys W hD rfl ⟨⟨hr, hp, hl, hfl⟩, hB⟩ hK
    obtain ⟨e0, e1, e2, e3, e4⟩ := accU_all w0
    have p0 : W.cell? ⟨w.heap.size + 1, 0, none⟩ = some (.int .u8 (w0 % 32)) := by rw [← e0]; exact (hp 0).1
    have p1 : W.cell? ⟨w.heap.size + 1, 1, none⟩ = some (.int .u8 (w0 / 32 % 16)) := by rw [← e1]; exact (hp 1).1
    have p2 : W.cell? ⟨w.heap.size + 1, 2, none⟩ = some (.int .u8 (w0 / 32 / 16 % 32)) := by rw [← e2]; exact (hp 2).1
    have p3 : W.cell? ⟨w.heap.size + 1, 3, none⟩ = some (.int .u8 (w0 / 32 / 16 / 32 % 16)) := by rw [← e3]; exact (hp 3).1
    have l0 : W.cell? ⟨w.heap.size + 1 + 1, 0, none⟩ = some (.int .u32 (w0 / 32 / 16 / 32 / 16)) := by rw [← e4]; exact hl
    have z0 : W.cell? ⟨w.heap.size, 0, none⟩ = some (.int .u8 0) := (hr 0).1
    have z1 : W.cell? ⟨w.heap.size, 1, none⟩ = some (.int .u8 0) := (hr 1).1
    have z2 : W.cell? ⟨w.heap.size, 2, none⟩ = some (.int .u8 0) := (hr 2).1
    have z3 : W.cell? ⟨w.heap.size, 3, none⟩ = some (.int .u8 0) := (hr 3).1
    have f0 : W.frozen? ⟨w.heap.size, 0, none⟩ = false := (hr 0).2
    have f1 : W.frozen? ⟨w.heap.size, 1, none⟩ = false := (hr 1).2
    have f2 : W.frozen? ⟨w.heap.size, 2, none⟩ = false := (hr 2).2
    have f3 : W.frozen? ⟨w.heap.size, 3, none⟩ = false := (hr 3).2
    have HB := phid hB
    have HKK := phid hK
    have HR := forall4 (P := fun k => (W.cell? ⟨w.heap.size, k, none⟩).isSome = true) (by rw [z0]; rfl) (by rw [z1]; rfl) (by rw [z2]; rfl) (by rw [z3]; rfl)
    have HR := phid HR
    have eu : (⟨w0 % 32, w0 / 32 % 16, w0 / 32 / 16 % 32, w0 / 32 / 16 / 32 % 16⟩ : Px) = unW w0 := by
      unfold unW; congr 1 <;> omega
    have EU := phid eu
    have hd2 : w.heap.size + 1 < W.heap.size := World.block_lt_of_cell? _ _ p0
    have HD := phid hD
    clear hr hp hl hfl hB hK e0 e1 e2 e3 e4 eu hD
    by_cases hq : 0 < w0 / 32 / 16 / 32 / 16
    · have hq1 : decide (0 < w0 / 32 / 16 / 32 / 16) = true := by simpa using hq
      have HX := phid (show unS w0 nw = Px.zero ∧ unE w0 nw = 5 from ⟨if_neg (fun h => by have := h.2.1; omega), by unfold unE; rw [if_pos hw, if_neg (fun h => by have := h.1; omega)]⟩)
      clear hq
      gi_wp2_with fail
      refine ⟨trivial, ?_⟩
      gi_wp2_with fail
      obtain ⟨hK', ⟨r0, r1, r2, r3⟩, hBf⟩ := un_fin (v0 := .int .u8 0) (v1 := .int .u8 0) (v2 := .int .u8 0) (v3 := .int .u8 0) (Nat.le_refl _) (by have := HD.out; simp [go_sem] at this; omega) HR.out HKK.out HB.out
      refine ⟨by simp, .inl ⟨_, _, rfl, run_takeDeferred hK', ?_⟩⟩
      refine ⟨.tuple #[.agg #[.int .u8 0, .int .u8 0, .int .u8 0, .int .u8 0], .int .i64 5], by simp [results, Tryz.results202, go_sem, r0, r1, r2, r3], ?_, hBf⟩
      rw [HX.out.1, HX.out.2]; rfl
    · have hq1 : decide (0 < w0 / 32 / 16 / 32 / 16) = false := by simpa using hq
      have hm := pmay_any ⟨w0 % 32, w0 / 32 % 16, w0 / 32 / 16 % 32, w0 / 32 / 16 / 32 % 16⟩ (by rw [EU.out]; exact un_bd h0) nw W
      rw [EU.out] at hm
      rw [← congrArg Px.agg EU.out] at hm
      have HM := phid hm
      have b0 : 0 ≤ w0 % 32 ∧ w0 % 32 < 256 := by omega
      have hw1 : w0 < 262144 := by omega
      clear hm
      by_cases hmm : pmayP (unW w0) nw
      · have HX := phid (show unS w0 nw = unW w0 ∧ unE w0 nw = 0 from ⟨if_pos ⟨hw, hw1, hmm⟩, by unfold unE; rw [if_pos hw, if_pos ⟨hw1, hmm⟩]⟩)
        have HD2 := phid (show decide (pmayP (unW w0) nw) = true from decide_eq_true hmm)
        clear hq hmm
        gi_wp2_with fail
        refine ⟨trivial, (callsIn_wide.2 HM.out).mono ?_⟩
        rw [HD2.out]
        rintro e W2 ⟨rfl, hb2⟩
        have keep : ∀ {a : Addr} {v : Value}, W.cell? a = some v → W2.cell? a = some v := fun h => (hb2.cell (World.block_lt_of_cell? _ _ h)).trans h
        have y0 := keep p0
        have y1 := keep p1
        have y2 := keep p2
        have y3 := keep p3
        have q0 := keep z0
        have q1 := keep z1
        have q2 := keep z2
        have q3 := keep z3
        have g0 := (hb2.frozen (p := ⟨w.heap.size, 0, none⟩) (World.block_lt_of_cell? _ _ z0)).trans f0
        have g1 := (hb2.frozen (p := ⟨w.heap.size, 1, none⟩) (World.block_lt_of_cell? _ _ z1)).trans f1
        have g2 := (hb2.frozen (p := ⟨w.heap.size, 2, none⟩) (World.block_lt_of_cell? _ _ z2)).trans f2
        have g3 := (hb2.frozen (p := ⟨w.heap.size, 3, none⟩) (World.block_lt_of_cell? _ _ z3)).trans f3
        have HR2 := phid (forall4 (P := fun k => (W2.cell? ⟨w.heap.size, k, none⟩).isSome = true) (by rw [q0]; rfl) (by rw [q1]; rfl) (by rw [q2]; rfl) (by rw [q3]; rfl))
        have HK2 := phid ((hb2.block D (Array.getElem?_eq_some_iff.1 HKK.out).1).trans HKK.out)
        have HB2 := phid (pbt HB.out hb2)
        clear hb2 keep p0 p1 p2 p3 z0 z1 z2 z3 f0 f1 f2 f3 l0
        gi_wp2_with fail
        obtain ⟨hK', ⟨r0, r1, r2, r3⟩, hBf⟩ := un_fin (v0 := .int .u8 (w0 % 32)) (v1 := .int .u8 (w0 / 32 % 16)) (v2 := .int .u8 (w0 / 32 / 16 % 32)) (v3 := .int .u8 (w0 / 32 / 16 / 32 % 16)) (Nat.le_refl _) (by have := HD.out; simp [go_sem] at this; omega) HR2.out HK2.out HB2.out
        refine ⟨by simp, .inl ⟨_, _, rfl, run_takeDeferred hK', ?_⟩⟩
        refine ⟨.tuple #[.agg #[.int .u8 (w0 % 32), .int .u8 (w0 / 32 % 16), .int .u8 (w0 / 32 / 16 % 32), .int .u8 (w0 / 32 / 16 / 32 % 16)], .int .i64 0], by simp [results, Tryz.results202, go_sem, r0, r1, r2, r3], ?_, hBf⟩
        rw [HX.out.1, HX.out.2, ← congrArg Px.agg EU.out]
      · have HX := phid (show unS w0 nw = Px.zero ∧ unE w0 nw = 5 from ⟨if_neg (fun h => hmm h.2.2), by unfold unE; rw [if_pos hw, if_neg (fun h => hmm h.2)]⟩)
        have HD2 := phid (show decide (pmayP (unW w0) nw) = false from decide_eq_false hmm)
        clear hq hmm
        gi_wp2_with fail
        refine ⟨trivial, (callsIn_wide.2 HM.out).mono ?_⟩
        rw [HD2.out]
        rintro e W2 ⟨rfl, hb2⟩
        have keep : ∀ {a : Addr} {v : Value}, W.cell? a = some v → W2.cell? a = some v := fun h => (hb2.cell (World.block_lt_of_cell? _ _ h)).trans h
        have q0 := keep z0
        have q1 := keep z1
        have q2 := keep z2
        have q3 := keep z3
        have g0 := (hb2.frozen (p := ⟨w.heap.size, 0, none⟩) (World.block_lt_of_cell? _ _ z0)).trans f0
        have g1 := (hb2.frozen (p := ⟨w.heap.size, 1, none⟩) (World.block_lt_of_cell? _ _ z1)).trans f1
        have g2 := (hb2.frozen (p := ⟨w.heap.size, 2, none⟩) (World.block_lt_of_cell? _ _ z2)).trans f2
        have g3 := (hb2.frozen (p := ⟨w.heap.size, 3, none⟩) (World.block_lt_of_cell? _ _ z3)).trans f3
        have HR2 := phid (forall4 (P := fun k => (W2.cell? ⟨w.heap.size, k, none⟩).isSome = true) (by rw [q0]; rfl) (by rw [q1]; rfl) (by rw [q2]; rfl) (by rw [q3]; rfl))
        have HK2 := phid ((hb2.block D (Array.getElem?_eq_some_iff.1 HKK.out).1).trans HKK.out)
        have HB2 := phid (pbt HB.out hb2)
        clear hb2 keep p0 p1 p2 p3 z0 z1 z2 z3 f0 f1 f2 f3 l0
        gi_wp2_with fail
        obtain ⟨hK', ⟨r0, r1, r2, r3⟩, hBf⟩ := un_fin (v0 := .int .u8 0) (v1 := .int .u8 0) (v2 := .int .u8 0) (v3 := .int .u8 0) (Nat.le_refl _) (by have := HD.out; simp [go_sem] at this; omega) HR2.out HK2.out HB2.out
        refine ⟨by simp, .inl ⟨_, _, rfl, run_takeDeferred hK', ?_⟩⟩
        refine ⟨.tuple #[.agg #[.int .u8 0, .int .u8 0, .int .u8 0, .int .u8 0], .int .i64 5], by simp [results, Tryz.results202, go_sem, r0, r1, r2, r3], ?_, hBf⟩
        rw [HX.out.1, HX.out.2]; rfl
  case stop =>
    rintro D c pre W _ _ h _
    exact h.elim
set_option maxRecDepth 100000 in
set_option maxHeartbeats 1000000 in
theorem unpack_any (w0 : Int) (h0 : 0 ≤ w0) (h1 : w0 < 4294967296) (nw : Int) (w : World) :
    Calls Tryz.prog 202 #[.int .u32 w0, .int .i64 nw] w fun e w' => e = .returned (.tuple #[(unS w0 nw).agg, .int .i64 (unE w0 nw)]) ∧ Below w.heap.size w w' := by
  by_cases hw : winP nw
  · exact unpack_win w0 h0 h1 nw hw w
  · rw [show unS w0 nw = Px.zero from if_neg (fun h => hw h.1), show unE w0 nw = 2 from if_neg hw]
    have hq := windows_any nw
    rw [decide_eq_false hw] at hq
    have H1 := phid hq
    clear hq hw
    go_enter Tryz.func202, Tryz.ntmps202
    go_wp2_with fail
    refine (H1.out _).mono ?_
    rintro e w' ⟨rfl, rfl⟩
    go_wp2_with fail
    refine bodyPost_ret (by simp [results, Tryz.results202, go_sem]; try rfl) rfl ?_
    exact ⟨rfl, by go_grown⟩
end Go.Proofs.YtajholbcpmjhiaaGreatDoor
