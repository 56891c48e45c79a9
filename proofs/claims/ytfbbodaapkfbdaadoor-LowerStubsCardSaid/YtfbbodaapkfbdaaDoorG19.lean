/- Several texts in one: AsmCopy, AsmRef. -/
import Derived.Test.YtfbbodaapkfbdaaDoorG18
import Derived.Shelf.SlMaps.Clone
import Derived.Deep.RegionHeld3
/- Walks of the package asm: Copy; the library's clones. -/
namespace Go.Proofs.YtfbbodaapkfbdaaDoor
open Go.RowKit Go.Maps
set_option linter.unusedVariables false
set_option linter.unusedSimpArgs false
set_option maxRecDepth 100000 in
theorem acell {W w1 : World} (hb : Below W.heap.size W w1) : (∀ b o, b < W.heap.size → w1.cell? ⟨b, o, none⟩ = W.cell? ⟨b, o, none⟩) ∧ (∀ b o, b < W.heap.size → w1.frozen? ⟨b, o, none⟩ = W.frozen? ⟨b, o, none⟩) :=
  ⟨fun b o h => hb.cell (p := ⟨b, o, none⟩) h, fun b o h => hb.frozen (p := ⟨b, o, none⟩) h⟩
set_option maxRecDepth 100000 in
theorem mclone_any (w : World) (m n : Nat) (D : DataW Unit) (h : w.ownsMap Tryd.prog 9 (plainElem Tryd.prog 3) m n D) :
    Calls Tryd.prog 46 #[.map (some m)] w fun e w' => e = .returned (.map (some w.heap.size)) ∧ w'.ownsMap Tryd.prog 9 (plainElem Tryd.prog 3) w.heap.size n D ∧ Below w.heap.size w w' := by
  obtain ⟨es, cl, hb, F, hz, hD⟩ := h
  have hq := fun w => run_eql_map_nil_sl (P := Tryd.prog) w 78 _ _ (some m) Tryd.underlying78
  have HB := ahid hb
  have HF := ahid (And.intro F (And.intro hz hD))
  clear hb F hz hD
  go_enter Tryd.func46, Tryd.ntmps46
  go_wp2
  rw [run_callFunc_extern Tryd.func72 (by kernel_rfl) (by kernel_rfl) (by kernel_rfl) (e := Extern.MapsClone.clone) (by kernel_rfl), run_maps_clone_sl w 78 HB.out]
  simp only [Result.andThen]
  rw [Oper.upon_value]
  go_wp2
  rw [run_typeAssert_map_sl _ 78 20 _ _ _ Tryd.underlying78]
  simp only [Result.andThen]
  rw [Oper.upon_value]
  go_wp2
  go_ret
  exact ⟨rfl, ⟨es, cl, (MapKept.heap_alloc w _).1, HF.out⟩, (Below.refl _ _).alloc (Nat.le_refl _) _⟩
/-- nil where v is; else a slice. -/
def likeSl (v : Value) (g n cap : Nat) : Value := match v with | .slice none _ _ => .slice none 0 0 | _ => .slice (some ⟨g, 0, none⟩) n cap
set_option maxRecDepth 100000 in
theorem aclone_any (w : World) (sv : Value) (n : Nat) (vs : List Value) (h : w.ownsRow 0 96 1 sv n vs) (h1 : ∀ u ∈ vs, u.oneCell' = true) (hn : n < 4294967296) :
    Calls Tryd.prog 45 #[sv] w fun e w' => ∃ g' cap', e = .returned (likeSl sv g' n cap') ∧ w'.ownsRow w.heap.size 96 1 (likeSl sv g' n cap') n vs ∧ Below w.heap.size w w' := by
  obtain ⟨i0, hi, hz0, hz1, hz2⟩ := info_parts infow
  rcases h.2 with ⟨rfl, hl0⟩ | ⟨g, cap, cur, rfl, hrest⟩
  · have q22 : ∀ (w : World) (a : Option Addr) (n c n' c' : Nat), (binOp .eql 79 (.slice a n c) (.slice none n' c')).run Tryd.prog w = .ok (.bool a.isNone) w := fun w a n c n' c' => Lib.run_eql_slice_nil w _ _ a n c n' c' Tryd.underlying79
    obtain rfl : vs = [] := List.eq_nil_of_length_eq_zero (by rw [h.1, hl0])
    subst hl0
    clear h h1
    have HZ := ahid (World.ownsRow_nil w w.heap.size 96 1)
    go_enter Tryd.func45, Tryd.ntmps45
    go_wp2
    go_ret
    exact ⟨0, 0, rfl, HZ.out, Below.refl _ _⟩
  · have q22 : ∀ (w : World) (a : Option Addr) (n c n' c' : Nat), (binOp .eql 79 (.slice a n c) (.slice none n' c')).run Tryd.prog w = .ok (.bool a.isNone) w := fun w a n c n' c' => Lib.run_eql_slice_nil w _ _ a n c n' c' Tryd.underlying79
    have hc := h.cells rfl
    have hl := h.1
    have HC := ahid (And.intro hc (And.intro hl h1))
    clear hc hl h1 h hrest
    go_enter Tryd.func45, Tryd.ntmps45
    go_wp2_with (at_builtin; refine wpList_append_own _ rfl _ _ 79 rfl w.heap.size 96 i0 _ 1 8 Tryd.underlying79 hi hz0 hz1 hz2 rfl (by decide) (.slice (some ⟨w.heap.size, 0, none⟩) 0 0) _ _ rfl (World.ownsRow_made w #[] 0 (Nat.le_refl _) (Nat.zero_le _) (by simp)) ⟨g, 0, none⟩ n cap vs rfl HC.out.2.1 (fun j u hj => Lib.cell?_alloc_some _ (HC.out.1 j u hj)) HC.out.2.2 (by unfold maxLen; omega) (by omega) (by simp) ?_; intro v' w1 hown hgrow hnil; rw [Nat.zero_add, List.nil_append] at hown)
    go_wp2
    go_ret
    rcases hown.2 with ⟨h, _⟩ | ⟨g', cap', _, rfl, _⟩
    · exact absurd (hnil.1 h).1 (by simp)
    refine ⟨g', cap', rfl, hown, ?_⟩
    exact ((Below.refl _ w).alloc (Nat.le_refl _) _).grown hgrow (by simp) (by intro k hk; simp [Value.ownBlock] at hk; omega)
/-- What Copy leaves. -/
def CopyOk (w : World) (K : Nat → Prop) (L : List It) (M : List (List UInt8 × Int)) (e : Ending) (w' : World) : Prop :=
  ∃ p v m, e = .returned (.pointer (some ⟨p, 0, none⟩)) ∧ (∀ k, Own p v m k → w.heap.size ≤ k) ∧ AsmAt w' p v m (fun k => K k ∧ k < w.heap.size) L M ∧ Below w.heap.size w w'
set_option maxRecDepth 100000 in
theorem AsmAt.copy {w W : World} {m' : Nat} {v' : Value} {K : Nat → Prop} {L : List It} {M : List (List UInt8 × Int)} {vs : List Value} {D : DataW Unit} (hb : Below w.heap.size w W)
    (ho : W.ownsRow w.heap.size 96 1 v' L.length vs) (hlen : vs.length = L.length) (hvs : ∀ (i : Nat) (v : Value) (it : It), vs[i]? = some v → L[i]? = some it → CloAt w K v it)
    (hm : W.ownsMap Tryd.prog 9 (plainElem Tryd.prog 3) m' M.length D) (hD : MarkD D M) (hmz : w.heap.size ≤ m') :
    CopyOk w K L M (.returned (.pointer (some ⟨W.heap.size, 0, none⟩))) (W.alloc (.cells #[v', .map (some m')] 81)) := by
  have hml := hm.lt
  have hvl := ho.lt
  have hbs := hb.size
  have hb2 : Below w.heap.size w (W.alloc (.cells #[v', .map (some m')] 81)) := hb.alloc hbs _
  have hne : v'.ownBlock ≠ some m' := fun e => by
    rcases ho.2 with ⟨rfl, _⟩ | ⟨g, cap, cur, rfl, _, hc, _⟩
    · simp [Value.ownBlock] at e
    · obtain ⟨es, cl, hmb, _⟩ := hm
      simp only [Value.ownBlock, Option.some.injEq] at e
      subst e
      rw [hc] at hmb; cases hmb
  refine ⟨_, v', m', rfl, ?_, ⟨(MapKept.heap_alloc W _).1, ⟨vs, ⟨ho.1, ?_⟩, hlen, ?_⟩, ⟨D, hm.alloc _, hD⟩, ⟨by omega, fun e => by have := (hvl _ e).2; omega, hne⟩, ?_⟩, hb2⟩
  · rintro k (rfl | h | rfl)
    · exact hbs
    · exact (hvl k h).1
    · exact hmz
  · rcases (ho.alloc (.cells #[v', .map (some m')] 81)).2 with h | ⟨g, cap, cur, h1, _, h2⟩
    · exact .inl h
    · exact .inr ⟨g, cap, cur, h1, Nat.zero_le _, h2⟩
  · intro i v it hv hi
    exact (hvs i v it hv hi).keep (Only.of_below (S := fun _ => False) hb2) (fun _ _ h => h) (fun k hk h => ⟨h, hk⟩)
  · intro k hk
    exact ⟨by omega, fun e => by have := (hvl _ e).1; omega, by omega⟩
set_option maxRecDepth 100000 in
theorem acopy_none (w : World) (a : Value) (hn : Calls Tryd.prog 30 #[a] w fun e w' => e = .returned (.bool true) ∧ w = w') :
    Calls Tryd.prog 23 #[a] w fun e w' => e = .returned (.pointer none) ∧ w = w' := by
  go_enter Tryd.func23, Tryd.ntmps23
  go_wp2_with fail
  refine hn.mono ?_
  rintro e w' ⟨rfl, rfl⟩
  go_wp2_with fail
  go_ret
  exact ⟨rfl, rfl⟩
set_option maxRecDepth 100000 in
set_option maxHeartbeats 2000000 in
theorem acopy_any (w : World) (p m : Nat) (sv : Value) (K : Nat → Prop) (L : List It) (M : List (List UInt8 × Int)) (h : AsmAt w p sv m K L M) (hL : L.length < 4294967296) :
    Calls Tryd.prog 23 #[.pointer (some ⟨p, 0, none⟩)] w (CopyOk w K L M) := by
  obtain ⟨c0, c1, f0, f1⟩ := h.cells
  have HN := ahid (anone_made w p m c1)
  obtain ⟨hp, hm, hs⟩ := h.blocks
  obtain ⟨vs, hown, hlen, hvs⟩ := h.row
  obtain ⟨D, hmap, hD⟩ := h.marks
  have h1 : ∀ u ∈ vs, u.oneCell' = true := fun u hu => by
    obtain ⟨i, hi, he⟩ := List.mem_iff_getElem.1 hu
    have hc := hvs i u L[i] (by rw [List.getElem?_eq_getElem hi, he]) (List.getElem?_eq_getElem (by omega))
    cases hit : L[i] with
    | put x => rw [hit] at hc; obtain ⟨c, hc, _⟩ := hc; rw [hc]; simp [Value.oneCell']
    | far x nm => rw [hit] at hc; obtain ⟨c, d, hc, _⟩ := hc; rw [hc]; simp [Value.oneCell']
  have HS := ahid (fun W (hW : Below w.heap.size w W) => (aclone_any W sv L.length vs (hown.keepw (Only.of_below (S := fun _ => False) hW) (fun _ _ h => h)) h1 hL).mono (R' := fun e W' => ∃ g' cap', e = .returned (likeSl sv g' L.length cap') ∧ W'.ownsRow w.heap.size 96 1 (likeSl sv g' L.length cap') L.length vs ∧ W'.cell? ⟨p, 0, none⟩ = some sv ∧ W'.cell? ⟨p, 1, none⟩ = some (.map (some m)) ∧ Below w.heap.size w W' ∧ Below W.heap.size W W')
    fun e W' ⟨g', cap', he, ho, hb⟩ => by
      have hb2 := hW.trans (hb.mono hW.size)
      refine ⟨g', cap', he, ⟨ho.1, ?_⟩, ((acell hb2).1 _ _ hp).trans c0, ((acell hb2).1 _ _ hp).trans c1, hb2, hb⟩
      rcases ho.2 with h | ⟨g, cap, cur, e1, e2, e3⟩
      · exact .inl h
      · exact .inr ⟨g, cap, cur, e1, Nat.le_trans hW.size e2, e3⟩)
  have HM := ahid (fun W (hW : Below w.heap.size w W) => (mclone_any W m M.length D (by
    obtain ⟨es, cl, hb, F, hz, hDD⟩ := hmap
    exact ⟨es, cl, (hW.block m (lt_of_block hb)).trans hb, F, hz, hDD⟩)).mono (R' := fun e W' => ∃ m', e = .returned (.map (some m')) ∧ w.heap.size ≤ m' ∧ W'.ownsMap Tryd.prog 9 (plainElem Tryd.prog 3) m' M.length D ∧ W'.cell? ⟨p, 0, none⟩ = some sv ∧ W'.cell? ⟨p, 1, none⟩ = some (.map (some m)) ∧ Below w.heap.size w W' ∧ Below W.heap.size W W')
    fun e W' ⟨he, ho, hb⟩ => by
      have hb2 := hW.trans (hb.mono hW.size)
      exact ⟨_, he, hW.size, ho, ((acell hb2).1 _ _ hp).trans c0, ((acell hb2).1 _ _ hp).trans c1, hb2, hb⟩)
  have HV := ahid (And.intro hlen (And.intro hvs hD))
  have hsl := h.slice
  clear h f0 f1 hs hown hlen hvs hmap hD h1 hm
  rcases hsl with ⟨rfl, _⟩ | ⟨gs, caps, rfl, _, _⟩
  · simp only [likeSl] at HS
    go_enter Tryd.func23, Tryd.ntmps23
    go_wp2_with fail
    refine HN.out.mono ?_
    rintro e w' ⟨rfl, rfl⟩
    go_wp2_with fail
    have hb0 := Below.refl w.heap.size w
    go_region_held3 (fun w' => w'.cell? ⟨p, 0, none⟩ = some (.slice none 0 0) ∧ w'.cell? ⟨p, 1, none⟩ = some (.map (some m)) ∧ Below w.heap.size w w') (first | exact ⟨c0, c1, hb0.drew⟩ | exact ⟨c0, c1, hb0⟩ | exact ⟨k0, k1, kb⟩ | exact ⟨l0, l1, lb⟩ | exact ⟨Lib.cell?_alloc_some _ l0, Lib.cell?_alloc_some _ l1, lb.alloc lb.size _⟩ | exact hb0.drew | exact kb | exact lb | (go_keep; done))
      (first
      | (go_at_call 45; refine (HS.out _ ?hb).mono ?_; (case hb => first | exact hb0 | exact hb0.drew | assumption | go_grown); rintro e W1 ⟨g1, cap1, rfl, ho1, k0, k1, kb, kk⟩)
      | (go_at_call 46; refine (HM.out _ ?hb).mono ?_; (case hb => first | exact hb0 | exact hb0.drew | assumption | go_grown); rintro e W2 ⟨m2, rfl, hm2, ho2, l0, l1, lb, ll⟩))
    go_wp2_with fail
    go_ret
    exact AsmAt.copy lb (ho1.kept_below ll kb.size) HV.out.1 HV.out.2.1 ho2 HV.out.2.2 hm2
  · simp only [likeSl] at HS
    go_enter Tryd.func23, Tryd.ntmps23
    go_wp2_with fail
    refine HN.out.mono ?_
    rintro e w' ⟨rfl, rfl⟩
    go_wp2_with fail
    have hb0 := Below.refl w.heap.size w
    go_region_held3 (fun w' => w'.cell? ⟨p, 0, none⟩ = some (.slice (some ⟨gs, 0, none⟩) L.length caps) ∧ w'.cell? ⟨p, 1, none⟩ = some (.map (some m)) ∧ Below w.heap.size w w') (first | exact ⟨c0, c1, hb0.drew⟩ | exact ⟨c0, c1, hb0⟩ | exact ⟨k0, k1, kb⟩ | exact ⟨l0, l1, lb⟩ | exact ⟨Lib.cell?_alloc_some _ l0, Lib.cell?_alloc_some _ l1, lb.alloc lb.size _⟩ | exact hb0.drew | exact kb | exact lb | (go_keep; done))
      (first
      | (go_at_call 45; refine (HS.out _ ?hb).mono ?_; (case hb => first | exact hb0 | exact hb0.drew | assumption | go_grown); rintro e W1 ⟨g1, cap1, rfl, ho1, k0, k1, kb, kk⟩)
      | (go_at_call 46; refine (HM.out _ ?hb).mono ?_; (case hb => first | exact hb0 | exact hb0.drew | assumption | go_grown); rintro e W2 ⟨m2, rfl, hm2, ho2, l0, l1, lb, ll⟩))
    go_wp2_with fail
    go_ret
    exact AsmAt.copy lb (ho1.kept_below ll kb.size) HV.out.1 HV.out.2.1 ho2 HV.out.2.2 hm2
end Go.Proofs.YtfbbodaapkfbdaaDoor
/- The document's list (muntinref07): how it lies; the walk of At. -/
namespace Go.Proofs.YtfbbodaapkfbdaaDoor
open Go.RowKit Go.Maps
set_option linter.unusedVariables false
set_option linter.unusedSimpArgs false
/-- A slice that was made here (or nil), as it is read: n things of so many cells. -/
def RowC (w : World) (v : Value) (size n : Nat) (cs : List Value) : Prop :=
  cs.length = n * size ∧ ((v = .slice none 0 0 ∧ n = 0) ∨ ∃ g cap, v = .slice (some ⟨g, 0, none⟩) n cap ∧ n ≤ cap ∧ cap ≤ maxLen ∧ g < w.heap.size ∧ ∀ (j : Nat) u, cs[j]? = some u → w.cell? ⟨g, j, none⟩ = some u)
theorem RowC.of_own {w : World} {B : Nat} {e : TypeId} {size n : Nat} {v : Value} {cs : List Value} (h : w.ownsRow B e size v n cs) : RowC w v size n cs := by
  refine ⟨h.1, ?_⟩
  rcases h.2 with h1 | ⟨g, cap, cur, rfl, hb, hc, h2, h3, _⟩
  · exact .inl h1
  · exact .inr ⟨g, cap, rfl, h2, h3, lt_of_block hc, fun j u hu => by have := h.cells rfl j u hu; rwa [addr_add0] at this⟩
theorem RowC.keep {a b : World} {size n : Nat} {v : Value} {cs : List Value} (h : RowC a v size n cs) (hb : Below a.heap.size a b) : RowC b v size n cs := by
  refine ⟨h.1, ?_⟩
  rcases h.2 with h1 | ⟨g, cap, rfl, h2, h3, h4, h5⟩
  · exact .inl h1
  · exact .inr ⟨g, cap, rfl, h2, h3, Nat.lt_of_lt_of_le h4 hb.size, fun j u hu => ((acell hb).1 g j h4).trans (h5 j u hu)⟩
theorem RowC.keepO {S : Nat → Prop} {a b : World} {size n : Nat} {v : Value} {cs : List Value} (h : RowC a v size n cs) (o : Only S a b) (hs : ∀ k, v.ownBlock = some k → ¬ S k) : RowC b v size n cs := by
  refine ⟨h.1, ?_⟩
  rcases h.2 with h1 | ⟨g, cap, rfl, h2, h3, h4, h5⟩
  · exact .inl h1
  · exact .inr ⟨g, cap, rfl, h2, h3, Nat.lt_of_lt_of_le h4 o.size, fun j u hu => (o.cell (p := ⟨g, j, none⟩) h4 (hs g rfl)).trans (h5 j u hu)⟩
theorem RowC.shape {w : World} {size n : Nat} {v : Value} {cs : List Value} (h : RowC w v size n cs) : ∃ p n c, v = .slice p n c := by
  rcases h.2 with h1 | ⟨g, cap, h1, _⟩
  · exact ⟨_, _, _, h1.1⟩
  · exact ⟨_, _, _, h1⟩
theorem RowC.nil (w : World) (size : Nat) : RowC w (.slice none 0 0) size 0 [] := ⟨by simp, .inl ⟨rfl, rfl⟩⟩
/-- An item's cells; a mark's. -/
def It.cells : It → List Value
  | .put x => x.cells ++ [.bool false, .string ⟨#[]⟩]
  | .far x nm => x.cells ++ [.bool true, .string nm]
theorem It.cells_len (it : It) : it.cells.length = 8 := by cases it <;> rfl
def markC (e : List UInt8 × Int) : List Value := [.string ⟨e.1.toArray⟩, .int .i64 e.2]
theorem markC_len (e : List UInt8 × Int) : (markC e).length = 2 := rfl
def ItemsAt (w : World) (v : Value) (L : List It) : Prop := RowC w v 8 L.length (L.flatMap It.cells)
def MarksAt (w : World) (v : Value) (M : List (List UInt8 × Int)) : Prop := RowC w v 2 M.length (M.flatMap markC)
theorem look_append (A B : List (List UInt8 × Int)) (nm : List UInt8) (h : look A nm = none) : look (A ++ B) nm = look B nm := by
  unfold look at *
  rw [List.find?_append]
  cases hf : A.find? (fun e => e.1 == nm) with
  | none => simp
  | some e => rw [hf] at h; cases h
theorem take_get {α : Type} (l : List α) (k : Nat) (x : α) (h : l[k]? = some x) : l.take (k + 1) = l.take k ++ [x] ∧ l = l.take k ++ (x :: l.drop (k + 1)) := by
  have hlt : k < l.length := by
    rcases Nat.lt_or_ge k l.length with h1 | h1
    · exact h1
    · rw [List.getElem?_eq_none h1] at h; cases h
  rw [List.getElem?_eq_getElem hlt] at h
  cases h
  exact ⟨List.take_succ_eq_append_getElem hlt, by rw [← List.drop_eq_getElem_cons hlt, List.take_append_drop]⟩
theorem look_hit {M : List (List UInt8 × Int)} {k : Nat} {e : List UInt8 × Int} {nm : List UInt8} (h : look (M.take k) nm = none) (hk : M[k]? = some e) (he : e.1 = nm) : look M nm = some e.2 := by
  rw [(take_get M k e hk).2, look_append _ _ _ h]
  simp [look, he]
theorem look_miss {M : List (List UInt8 × Int)} {k : Nat} {e : List UInt8 × Int} {nm : List UInt8} (h : look (M.take k) nm = none) (hk : M[k]? = some e) (he : e.1 ≠ nm) : look (M.take (k + 1)) nm = none := by
  rw [(take_get M k e hk).1, look_append _ _ _ h]
  simp [look, he]
theorem mk_toList (b : ByteArray) : (⟨b.data.toList.toArray⟩ : ByteArray) = b := by cases b; simp
set_option maxRecDepth 100000 in
set_option maxHeartbeats 1000000 in
theorem rat_any (w : World) (lv mv : Value) (M : List (List UInt8 × Int)) (hM : MarksAt w mv M) (nm : ByteArray) (hl : M.length ≤ maxLen) :
    Calls Tryd.prog 44 #[.agg #[lv, mv], .string nm] w fun e w' => e = .returned (.tuple #[.int .i64 (atN M nm), .int .i64 (atE M nm)]) ∧ Below w.heap.size w w' := by
  unfold maxLen at hl
  have H0 := ahid (show atN M nm = (look M nm.data.toList).getD 0 ∧ atE M nm = if (look M nm.data.toList).isSome = true then 0 else 7 from ⟨rfl, rfl⟩)
  rcases hM.2 with ⟨rfl, h0⟩ | ⟨g, cap, rfl, h1, h2, h3, h4⟩
  · obtain rfl : M = [] := List.eq_nil_of_length_eq_zero h0
    clear hM h0 hl
    go_enter Tryd.func44, Tryd.ntmps44
    go_wp2_with fail
    refine wp_loop_rounds 1 ?_
    rw [rounds_succ]
    go_wp2_with fail
    go_ret2
    exact ⟨rfl, (Below.refl _ _).alloc (Nat.le_refl _) _⟩
  · have HM := ahid hM
    have HC := ahid h4
    have hz : g ≠ w.heap.size := by omega
    clear hM h4
    go_enter Tryd.func44, Tryd.ntmps44
    go_wp2_with fail
    go_loop [6] (fun i => ∃ k : Nat, k ≤ M.length ∧ i = .int .i64 k ∧ look (M.take k) nm.data.toList = none) (fun i => M.length - (intOf i).toNat)
    case atStart => exact ⟨0, Nat.zero_le _, rfl, rfl⟩
    case round =>
      obtain ⟨k, hk, rfl, hlk⟩ := hrel
      have HL := ahid hlk
      clear hlk
      by_cases hlt : k < M.length
      · obtain ⟨e, he⟩ : ∃ e, M[k]? = some e := ⟨_, List.getElem?_eq_getElem hlt⟩
        have hkM : (k : Int) < M.length := by omega
        have c0 : (w.alloc (.cells #[lv, .slice (some ⟨g, 0, none⟩) M.length cap] 60)).cell? ⟨g, k * 2, none⟩ = some (.string ⟨e.1.toArray⟩) := Lib.cell?_alloc_some _ (HC.out (k * 2 + 0) _ (by rw [flat_get markC 2 markC_len M k 0 e he (by omega)]; rfl))
        have c1 : (w.alloc (.cells #[lv, .slice (some ⟨g, 0, none⟩) M.length cap] 60)).cell? ⟨g, k * 2 + 1, none⟩ = some (.int .i64 e.2) := Lib.cell?_alloc_some _ (HC.out (k * 2 + 1) _ (by rw [flat_get markC 2 markC_len M k 1 e he (by omega)]; rfl))
        by_cases heq : e.1 = nm.data.toList
        · have HK := ahid (look_hit HL.out he heq)
          have hs : (⟨e.1.toArray⟩ : ByteArray) = nm := by rw [heq]
          rw [hs] at c0
          clear hs heq he
          go_wp2_with fail
          go_ret2
          exact ⟨by rw [H0.out.1, H0.out.2, HK.out]; rfl, (Below.refl _ _).alloc (Nat.le_refl _) _⟩
        · have HK := ahid (look_miss HL.out he heq)
          have hb : ((⟨e.1.toArray⟩ : ByteArray).toList == nm.toList) = false := by
            rw [ByteArray.toList_eq, ByteArray.toList_eq]; simpa using heq
          clear heq he
          generalize (⟨e.1.toArray⟩ : ByteArray) = nm2 at c0 hb
          go_wp2_with fail
          go_round
          case rel => exact ⟨k + 1, by omega, by go_num, HK.out⟩
          case measure => simp [intOf]; omega
      · obtain rfl : k = M.length := by omega
        have hkM : ¬ ((M.length : Int) < M.length) := by omega
        have hlk := HL.out
        rw [List.take_length] at hlk
        have HK := ahid hlk
        clear hlk
        go_wp2_with fail
        go_ret2
        exact ⟨by rw [H0.out.1, H0.out.2, HK.out]; rfl, (Below.refl _ _).alloc (Nat.le_refl _) _⟩
end Go.Proofs.YtfbbodaapkfbdaaDoor
