/- Several texts in one: AsmCopy, AsmRef, AsmRPut. -/
import Derived.Test.YtfbbodaapkfbdaaDoorG13
import Derived.Test.YtfbbodaapkfbdaaDoorG03
import Derived.Shelf.SlMaps.Clone
import Derived.Deep.RegionHeld3
/- Walks of the package asm: Copy; the library's clones. -/
namespace Go.Proofs.YtfbbodaapkfbdaaDoor
open Go.RowKit Go.Maps
set_option linter.unusedVariables false
set_option linter.unusedSimpArgs false
set_option maxRecDepth 100000 in
theorem acell {W w1 : World} (hb : Below W.heap.size W w1) : (∀ b o, b < W.heap.size → w1.cell? ⟨b, o, none⟩ = W.cell? ⟨b, o, none⟩) ∧ (∀ b o, b < W.heap.size → w1.frozen? ⟨b, o, none⟩ = W.frozen? ⟨b, o, none⟩) :=
  ⟨fun b o h => hb.cell (p := ⟨b, o, none⟩) h, fun b o h => hb.frozen (p := ⟨b, o, none⟩) h⟩
set_option maxRecDepth 100000 in
theorem mclone_any (w : World) (m n : Nat) (D : DataW Unit) (h : w.ownsMap Tryd.prog 9 (plainElem Tryd.prog 3) m n D) :
    Calls Tryd.prog 46 #[.map (some m)] w fun e w' => e = .returned (.map (some w.heap.size)) ∧ w'.ownsMap Tryd.prog 9 (plainElem Tryd.prog 3) w.heap.size n D ∧ Below w.heap.size w w' := by
  obtain ⟨es, cl, hb, F, hz, hD⟩ := h
  have hq := fun w => run_eql_map_nil_sl (P := Tryd.prog) w 78 _ _ (some m) Tryd.underlying78
  have HB := ahid hb
  have HF := ahid (And.intro F (And.intro hz hD))
  clear hb F hz hD
  go_enter Tryd.func46, Tryd.ntmps46
  go_wp2
  rw [run_callFunc_extern Tryd.func72 (by kernel_rfl) (by kernel_rfl) (by kernel_rfl) (e := Extern.MapsClone.clone) (by kernel_rfl), run_maps_clone_sl w 78 HB.out]
  simp only [Result.andThen]
  rw [Oper.upon_value]
  go_wp2
  rw [run_typeAssert_map_sl _ 78 20 _ _ _ Tryd.underlying78]
  simp only [Result.andThen]
  rw [Oper.upon_value]
  go_wp2
  go_ret
  exact ⟨rfl, ⟨es, cl, (MapKept.heap_alloc w _).1, HF.out⟩, (Below.refl _ _).alloc (Nat.le_refl _) _⟩
/-- nil where v is; else a slice. -/
def likeSl (v : Value) (g n cap : Nat) : Value := match v with | .slice none _ _ => .slice none 0 0 | _ => .slice (some ⟨g, 0, none⟩) n cap
set_option maxRecDepth 100000 in
theorem aclone_any (w : World) (sv : Value) (n : Nat) (vs : List Value) (h : w.ownsRow 0 96 1 sv n vs) (h1 : ∀ u ∈ vs, u.oneCell' = true) (hn : n < 4294967296) :
    Calls Tryd.prog 45 #[sv] w fun e w' => ∃ g' cap', e = .returned (likeSl sv g' n cap') ∧ w'.ownsRow w.heap.size 96 1 (likeSl sv g' n cap') n vs ∧ Below w.heap.size w w' := by
  obtain ⟨i0, hi, hz0, hz1, hz2⟩ := info_parts infow
  rcases h.2 with ⟨rfl, hl0⟩ | ⟨g, cap, cur, rfl, hrest⟩
  · have q22 : ∀ (w : World) (a : Option Addr) (n c n' c' : Nat), (binOp .eql 79 (.slice a n c) (.slice none n' c')).run Tryd.prog w = .ok (.bool a.isNone) w := fun w a n c n' c' => Lib.run_eql_slice_nil w _ _ a n c n' c' Tryd.underlying79
    obtain rfl : vs = [] := List.eq_nil_of_length_eq_zero (by rw [h.1, hl0])
    subst hl0
    clear h h1
    have HZ := ahid (World.ownsRow_nil w w.heap.size 96 1)
    go_enter Tryd.func45, Tryd.ntmps45
    go_wp2
    go_ret
    exact ⟨0, 0, rfl, HZ.out, Below.refl _ _⟩
  · have q22 : ∀ (w : World) (a : Option Addr) (n c n' c' : Nat), (binOp .eql 79 (.slice a n c) (.slice none n' c')).run Tryd.prog w = .ok (.bool a.isNone) w := fun w a n c n' c' => Lib.run_eql_slice_nil w _ _ a n c n' c' Tryd.underlying79
    have hc := h.cells rfl
    have hl := h.1
    have HC := ahid (And.intro hc (And.intro hl h1))
    clear hc hl h1 h hrest
    go_enter Tryd.func45, Tryd.ntmps45
    go_wp2_with (at_builtin; refine wpList_append_own _ rfl _ _ 79 rfl w.heap.size 96 i0 _ 1 8 Tryd.underlying79 hi hz0 hz1 hz2 rfl (by decide) (.slice (some ⟨w.heap.size, 0, none⟩) 0 0) _ _ rfl (World.ownsRow_made w #[] 0 (Nat.le_refl _) (Nat.zero_le _) (by simp)) ⟨g, 0, none⟩ n cap vs rfl HC.out.2.1 (fun j u hj => Lib.cell?_alloc_some _ (HC.out.1 j u hj)) HC.out.2.2 (by unfold maxLen; omega) (by omega) (by simp) ?_; intro v' w1 hown hgrow hnil; rw [Nat.zero_add, List.nil_append] at hown)
    go_wp2
    go_ret
    rcases hown.2 with ⟨h, _⟩ | ⟨g', cap', _, rfl, _⟩
    · exact absurd (hnil.1 h).1 (by simp)
    refine ⟨g', cap', rfl, hown, ?_⟩
    exact ((Below.refl _ w).alloc (Nat.le_refl _) _).grown hgrow (by simp) (by intro k hk; simp [Value.ownBlock] at hk; omega)
/-- What Copy leaves. -/
def CopyOk (w : World) (K : Nat → Prop) (L : List It) (M : List (List UInt8 × Int)) (e : Ending) (w' : World) : Prop :=
  ∃ p v m, e = .returned (.pointer (some ⟨p, 0, none⟩)) ∧ (∀ k, Own p v m k → w.heap.size ≤ k) ∧ AsmAt w' p v m (fun k => K k ∧ k < w.heap.size) L M ∧ Below w.heap.size w w'
set_option maxRecDepth 100000 in
theorem AsmAt.copy {w W : World} {m' : Nat} {v' : Value} {K : Nat → Prop} {L : List It} {M : List (List UInt8 × Int)} {vs : List Value} {D : DataW Unit} (hb : Below w.heap.size w W)
    (ho : W.ownsRow w.heap.size 96 1 v' L.length vs) (hlen : vs.length = L.length) (hvs : ∀ (i : Nat) (v : Value) (it : It), vs[i]? = some v → L[i]? = some it → CloAt w K v it)
    (hm : W.ownsMap Tryd.prog 9 (plainElem Tryd.prog 3) m' M.length D) (hD : MarkD D M) (hmz : w.heap.size ≤ m') :
    CopyOk w K L M (.returned (.pointer (some ⟨W.heap.size, 0, none⟩))) (W.alloc (.cells #[v', .map (some m')] 81)) := by
  have hml := hm.lt
  have hvl := ho.lt
  have hbs := hb.size
  have hb2 : Below w.heap.size w (W.alloc (.cells #[v', .map (some m')] 81)) := hb.alloc hbs _
  have hne : v'.ownBlock ≠ some m' := fun e => by
    rcases ho.2 with ⟨rfl, _⟩ | ⟨g, cap, cur, rfl, _, hc, _⟩
    · simp [Value.ownBlock] at e
    · obtain ⟨es, cl, hmb, _⟩ := hm
      simp only [Value.ownBlock, Option.some.injEq] at e
      subst e
      rw [hc] at hmb; cases hmb
  refine ⟨_, v', m', rfl, ?_, ⟨(MapKept.heap_alloc W _).1, ⟨vs, ⟨ho.1, ?_⟩, hlen, ?_⟩, ⟨D, hm.alloc _, hD⟩, ⟨by omega, fun e => by have := (hvl _ e).2; omega, hne⟩, ?_⟩, hb2⟩
  · rintro k (rfl | h | rfl)
    · exact hbs
    · exact (hvl k h).1
    · exact hmz
  · rcases (ho.alloc (.cells #[v', .map (some m')] 81)).2 with h | ⟨g, cap, cur, h1, _, h2⟩
    · exact .inl h
    · exact .inr ⟨g, cap, cur, h1, Nat.zero_le _, h2⟩
  · intro i v it hv hi
    exact (hvs i v it hv hi).keep (Only.of_below (S := fun _ => False) hb2) (fun _ _ h => h) (fun k hk h => ⟨h, hk⟩)
  · intro k hk
    exact ⟨by omega, fun e => by have := (hvl _ e).1; omega, by omega⟩
set_option maxRecDepth 100000 in
theorem acopy_none (w : World) (a : Value) (hn : Calls Tryd.prog 30 #[a] w fun e w' => e = .returned (.bool true) ∧ w = w') :
    Calls Tryd.prog 23 #[a] w fun e w' => e = .returned (.pointer none) ∧ w = w' := by
  go_enter Tryd.func23, Tryd.ntmps23
  go_wp2_with fail
  refine hn.mono ?_
  rintro e w' ⟨rfl, rfl⟩
  go_wp2_with fail
  go_ret
  exact ⟨rfl, rfl⟩
set_option maxRecDepth 100000 in
set_option maxHeartbeats 2000000 in
theorem acopy_any (w : World) (p m : Nat) (sv : Value) (K : Nat → Prop) (L : List It) (M : List (List UInt8 × Int)) (h : AsmAt w p sv m K L M) (hL : L.length < 4294967296) :
    Calls Tryd.prog 23 #[.pointer (some ⟨p, 0, none⟩)] w (CopyOk w K L M) := by
  obtain ⟨c0, c1, f0, f1⟩ := h.cells
  have HN := ahid (anone_made w p m c1)
  obtain ⟨hp, hm, hs⟩ := h.blocks
  obtain ⟨vs, hown, hlen, hvs⟩ := h.row
  obtain ⟨D, hmap, hD⟩ := h.marks
  have h1 : ∀ u ∈ vs, u.oneCell' = true := fun u hu => by
    obtain ⟨i, hi, he⟩ := List.mem_iff_getElem.1 hu
    have hc := hvs i u L[i] (by rw [List.getElem?_eq_getElem hi, he]) (List.getElem?_eq_getElem (by omega))
    cases hit : L[i] with
    | put x => rw [hit] at hc; obtain ⟨c, hc, _⟩ := hc; rw [hc]; simp [Value.oneCell']
    | far x nm => rw [hit] at hc; obtain ⟨c, d, hc, _⟩ := hc; rw [hc]; simp [Value.oneCell']
  have HS := ahid (fun W (hW : Below w.heap.size w W) => (aclone_any W sv L.length vs (hown.keepw (Only.of_below (S := fun _ => False) hW) (fun _ _ h => h)) h1 hL).mono (R' := fun e W' => ∃ g' cap', e = .returned (likeSl sv g' L.length cap') ∧ W'.ownsRow w.heap.size 96 1 (likeSl sv g' L.length cap') L.length vs ∧ W'.cell? ⟨p, 0, none⟩ = some sv ∧ W'.cell? ⟨p, 1, none⟩ = some (.map (some m)) ∧ Below w.heap.size w W' ∧ Below W.heap.size W W')
    fun e W' ⟨g', cap', he, ho, hb⟩ => by
      have hb2 := hW.trans (hb.mono hW.size)
      refine ⟨g', cap', he, ⟨ho.1, ?_⟩, ((acell hb2).1 _ _ hp).trans c0, ((acell hb2).1 _ _ hp).trans c1, hb2, hb⟩
      rcases ho.2 with h | ⟨g, cap, cur, e1, e2, e3⟩
      · exact .inl h
      · exact .inr ⟨g, cap, cur, e1, Nat.le_trans hW.size e2, e3⟩)
  have HM := ahid (fun W (hW : Below w.heap.size w W) => (mclone_any W m M.length D (by
    obtain ⟨es, cl, hb, F, hz, hDD⟩ := hmap
    exact ⟨es, cl, (hW.block m (lt_of_block hb)).trans hb, F, hz, hDD⟩)).mono (R' := fun e W' => ∃ m', e = .returned (.map (some m')) ∧ w.heap.size ≤ m' ∧ W'.ownsMap Tryd.prog 9 (plainElem Tryd.prog 3) m' M.length D ∧ W'.cell? ⟨p, 0, none⟩ = some sv ∧ W'.cell? ⟨p, 1, none⟩ = some (.map (some m)) ∧ Below w.heap.size w W' ∧ Below W.heap.size W W')
    fun e W' ⟨he, ho, hb⟩ => by
      have hb2 := hW.trans (hb.mono hW.size)
      exact ⟨_, he, hW.size, ho, ((acell hb2).1 _ _ hp).trans c0, ((acell hb2).1 _ _ hp).trans c1, hb2, hb⟩)
  have HV := ahid (And.intro hlen (And.intro hvs hD))
  have hsl := h.slice
  clear h f0 f1 hs hown hlen hvs hmap hD h1 hm
  rcases hsl with ⟨rfl, _⟩ | ⟨gs, caps, rfl, _, _⟩
  · simp only [likeSl] at HS
    go_enter Tryd.func23, Tryd.ntmps23
    go_wp2_with fail
    refine HN.out.mono ?_
    rintro e w' ⟨rfl, rfl⟩
    go_wp2_with fail
    have hb0 := Below.refl w.heap.size w
    go_region_held3 (fun w' => w'.cell? ⟨p, 0, none⟩ = some (.slice none 0 0) ∧ w'.cell? ⟨p, 1, none⟩ = some (.map (some m)) ∧ Below w.heap.size w w') (first | exact ⟨c0, c1, hb0.drew⟩ | exact ⟨c0, c1, hb0⟩ | exact ⟨k0, k1, kb⟩ | exact ⟨l0, l1, lb⟩ | exact ⟨Lib.cell?_alloc_some _ l0, Lib.cell?_alloc_some _ l1, lb.alloc lb.size _⟩ | exact hb0.drew | exact kb | exact lb | (go_keep; done))
      (first
      | (go_at_call 45; refine (HS.out _ ?hb).mono ?_; (case hb => first | exact hb0 | exact hb0.drew | assumption | go_grown); rintro e W1 ⟨g1, cap1, rfl, ho1, k0, k1, kb, kk⟩)
      | (go_at_call 46; refine (HM.out _ ?hb).mono ?_; (case hb => first | exact hb0 | exact hb0.drew | assumption | go_grown); rintro e W2 ⟨m2, rfl, hm2, ho2, l0, l1, lb, ll⟩))
    go_wp2_with fail
    go_ret
    exact AsmAt.copy lb (ho1.kept_below ll kb.size) HV.out.1 HV.out.2.1 ho2 HV.out.2.2 hm2
  · simp only [likeSl] at HS
    go_enter Tryd.func23, Tryd.ntmps23
    go_wp2_with fail
    refine HN.out.mono ?_
    rintro e w' ⟨rfl, rfl⟩
    go_wp2_with fail
    have hb0 := Below.refl w.heap.size w
    go_region_held3 (fun w' => w'.cell? ⟨p, 0, none⟩ = some (.slice (some ⟨gs, 0, none⟩) L.length caps) ∧ w'.cell? ⟨p, 1, none⟩ = some (.map (some m)) ∧ Below w.heap.size w w') (first | exact ⟨c0, c1, hb0.drew⟩ | exact ⟨c0, c1, hb0⟩ | exact ⟨k0, k1, kb⟩ | exact ⟨l0, l1, lb⟩ | exact ⟨Lib.cell?_alloc_some _ l0, Lib.cell?_alloc_some _ l1, lb.alloc lb.size _⟩ | exact hb0.drew | exact kb | exact lb | (go_keep; done))
      (first
      | (go_at_call 45; refine (HS.out _ ?hb).mono ?_; (case hb => first | exact hb0 | exact hb0.drew | assumption | go_grown); rintro e W1 ⟨g1, cap1, rfl, ho1, k0, k1, kb, kk⟩)
      | (go_at_call 46; refine (HM.out _ ?hb).mono ?_; (case hb => first | exact hb0 | exact hb0.drew | assumption | go_grown); rintro e W2 ⟨m2, rfl, hm2, ho2, l0, l1, lb, ll⟩))
    go_wp2_with fail
    go_ret
    exact AsmAt.copy lb (ho1.kept_below ll kb.size) HV.out.1 HV.out.2.1 ho2 HV.out.2.2 hm2
end Go.Proofs.YtfbbodaapkfbdaaDoor
/- The document's list (muntinref07): how it lies; the walk of At. -/
namespace Go.Proofs.YtfbbodaapkfbdaaDoor
open Go.RowKit Go.Maps
set_option linter.unusedVariables false
set_option linter.unusedSimpArgs false
/-- A slice that was made here (or nil), as it is read: n things of so many cells. -/
def RowC (w : World) (v : Value) (size n : Nat) (cs : List Value) : Prop :=
  cs.length = n * size ∧ ((v = .slice none 0 0 ∧ n = 0) ∨ ∃ g cap, v = .slice (some ⟨g, 0, none⟩) n cap ∧ n ≤ cap ∧ cap ≤ maxLen ∧ g < w.heap.size ∧ ∀ (j : Nat) u, cs[j]? = some u → w.cell? ⟨g, j, none⟩ = some u)
theorem RowC.of_own {w : World} {B : Nat} {e : TypeId} {size n : Nat} {v : Value} {cs : List Value} (h : w.ownsRow B e size v n cs) : RowC w v size n cs := by
  refine ⟨h.1, ?_⟩
  rcases h.2 with h1 | ⟨g, cap, cur, rfl, hb, hc, h2, h3, _⟩
  · exact .inl h1
  · exact .inr ⟨g, cap, rfl, h2, h3, lt_of_block hc, fun j u hu => by have := h.cells rfl j u hu; rwa [addr_add0] at this⟩
theorem RowC.keep {a b : World} {size n : Nat} {v : Value} {cs : List Value} (h : RowC a v size n cs) (hb : Below a.heap.size a b) : RowC b v size n cs := by
  refine ⟨h.1, ?_⟩
  rcases h.2 with h1 | ⟨g, cap, rfl, h2, h3, h4, h5⟩
  · exact .inl h1
  · exact .inr ⟨g, cap, rfl, h2, h3, Nat.lt_of_lt_of_le h4 hb.size, fun j u hu => ((acell hb).1 g j h4).trans (h5 j u hu)⟩
theorem RowC.keepO {S : Nat → Prop} {a b : World} {size n : Nat} {v : Value} {cs : List Value} (h : RowC a v size n cs) (o : Only S a b) (hs : ∀ k, v.ownBlock = some k → ¬ S k) : RowC b v size n cs := by
  refine ⟨h.1, ?_⟩
  rcases h.2 with h1 | ⟨g, cap, rfl, h2, h3, h4, h5⟩
  · exact .inl h1
  · exact .inr ⟨g, cap, rfl, h2, h3, Nat.lt_of_lt_of_le h4 o.size, fun j u hu => (o.cell (p := ⟨g, j, none⟩) h4 (hs g rfl)).trans (h5 j u hu)⟩
theorem RowC.shape {w : World} {size n : Nat} {v : Value} {cs : List Value} (h : RowC w v size n cs) : ∃ p n c, v = .slice p n c := by
  rcases h.2 with h1 | ⟨g, cap, h1, _⟩
  · exact ⟨_, _, _, h1.1⟩
  · exact ⟨_, _, _, h1⟩
theorem RowC.nil (w : World) (size : Nat) : RowC w (.slice none 0 0) size 0 [] := ⟨by simp, .inl ⟨rfl, rfl⟩⟩
/-- An item's cells; a mark's. -/
def It.cells : It → List Value
  | .put x => x.cells ++ [.bool false, .string ⟨#[]⟩]
  | .far x nm => x.cells ++ [.bool true, .string nm]
theorem It.cells_len (it : It) : it.cells.length = 8 := by cases it <;> rfl
def markC (e : List UInt8 × Int) : List Value := [.string ⟨e.1.toArray⟩, .int .i64 e.2]
theorem markC_len (e : List UInt8 × Int) : (markC e).length = 2 := rfl
def ItemsAt (w : World) (v : Value) (L : List It) : Prop := RowC w v 8 L.length (L.flatMap It.cells)
def MarksAt (w : World) (v : Value) (M : List (List UInt8 × Int)) : Prop := RowC w v 2 M.length (M.flatMap markC)
theorem look_append (A B : List (List UInt8 × Int)) (nm : List UInt8) (h : look A nm = none) : look (A ++ B) nm = look B nm := by
  unfold look at *
  rw [List.find?_append]
  cases hf : A.find? (fun e => e.1 == nm) with
  | none => simp
  | some e => rw [hf] at h; cases h
theorem take_get {α : Type} (l : List α) (k : Nat) (x : α) (h : l[k]? = some x) : l.take (k + 1) = l.take k ++ [x] ∧ l = l.take k ++ (x :: l.drop (k + 1)) := by
  have hlt : k < l.length := by
    rcases Nat.lt_or_ge k l.length with h1 | h1
    · exact h1
    · rw [List.getElem?_eq_none h1] at h; cases h
  rw [List.getElem?_eq_getElem hlt] at h
  cases h
  exact ⟨List.take_succ_eq_append_getElem hlt, by rw [← List.drop_eq_getElem_cons hlt, List.take_append_drop]⟩
theorem look_hit {M : List (List UInt8 × Int)} {k : Nat} {e : List UInt8 × Int} {nm : List UInt8} (h : look (M.take k) nm = none) (hk : M[k]? = some e) (he : e.1 = nm) : look M nm = some e.2 := by
  rw [(take_get M k e hk).2, look_append _ _ _ h]
  simp [look, he]
theorem look_miss {M : List (List UInt8 × Int)} {k : Nat} {e : List UInt8 × Int} {nm : List UInt8} (h : look (M.take k) nm = none) (hk : M[k]? = some e) (he : e.1 ≠ nm) : look (M.take (k + 1)) nm = none := by
  rw [(take_get M k e hk).1, look_append _ _ _ h]
  simp [look, he]
theorem mk_toList (b : ByteArray) : (⟨b.data.toList.toArray⟩ : ByteArray) = b := by cases b; simp
set_option maxRecDepth 100000 in
set_option maxHeartbeats 1000000 in
theorem rat_any (w : World) (lv mv : Value) (M : List (List UInt8 × Int)) (hM : MarksAt w mv M) (nm : ByteArray) (hl : M.length ≤ maxLen) :
    Calls Tryd.prog 44 #[.agg #[lv, mv], .string nm] w fun e w' => e = .returned (.tuple #[.int .i64 (atN M nm), .int .i64 (atE M nm)]) ∧ Below w.heap.size w w' := by
  unfold maxLen at hl
  have H0 := ahid (show atN M nm = (look M nm.data.toList).getD 0 ∧ atE M nm = if (look M nm.data.toList).isSome = true then 0 else 7 from ⟨rfl, rfl⟩)
  rcases hM.2 with ⟨rfl, h0⟩ | ⟨g, cap, rfl, h1, h2, h3, h4⟩
  · obtain rfl : M = [] := List.eq_nil_of_length_eq_zero h0
    clear hM h0 hl
    go_enter Tryd.func44, Tryd.ntmps44
    go_wp2_with fail
    refine wp_loop_rounds 1 ?_
    rw [rounds_succ]
    go_wp2_with fail
    go_ret2
    exact ⟨rfl, (Below.refl _ _).alloc (Nat.le_refl _) _⟩
  · have HM := ahid hM
    have HC := ahid h4
    have hz : g ≠ w.heap.size := by omega
    clear hM h4
    go_enter Tryd.func44, Tryd.ntmps44
    go_wp2_with fail
    go_loop [6] (fun i => ∃ k : Nat, k ≤ M.length ∧ i = .int .i64 k ∧ look (M.take k) nm.data.toList = none) (fun i => M.length - (intOf i).toNat)
    case atStart => exact ⟨0, Nat.zero_le _, rfl, rfl⟩
    case round =>
      obtain ⟨k, hk, rfl, hlk⟩ := hrel
      have HL := ahid hlk
      clear hlk
      by_cases hlt : k < M.length
      · obtain ⟨e, he⟩ : ∃ e, M[k]? = some e := ⟨_, List.getElem?_eq_getElem hlt⟩
        have hkM : (k : Int) < M.length := by omega
        have c0 : (w.alloc (.cells #[lv, .slice (some ⟨g, 0, none⟩) M.length cap] 60)).cell? ⟨g, k * 2, none⟩ = some (.string ⟨e.1.toArray⟩) := Lib.cell?_alloc_some _ (HC.out (k * 2 + 0) _ (by rw [flat_get markC 2 markC_len M k 0 e he (by omega)]; rfl))
        have c1 : (w.alloc (.cells #[lv, .slice (some ⟨g, 0, none⟩) M.length cap] 60)).cell? ⟨g, k * 2 + 1, none⟩ = some (.int .i64 e.2) := Lib.cell?_alloc_some _ (HC.out (k * 2 + 1) _ (by rw [flat_get markC 2 markC_len M k 1 e he (by omega)]; rfl))
        by_cases heq : e.1 = nm.data.toList
        · have HK := ahid (look_hit HL.out he heq)
          have hs : (⟨e.1.toArray⟩ : ByteArray) = nm := by rw [heq]
          rw [hs] at c0
          clear hs heq he
          go_wp2_with fail
          go_ret2
          exact ⟨by rw [H0.out.1, H0.out.2, HK.out]; rfl, (Below.refl _ _).alloc (Nat.le_refl _) _⟩
        · have HK := ahid (look_miss HL.out he heq)
          have hb : ((⟨e.1.toArray⟩ : ByteArray).toList == nm.toList) = false := by
            rw [ByteArray.toList_eq, ByteArray.toList_eq]; simpa using heq
          clear heq he
          generalize (⟨e.1.toArray⟩ : ByteArray) = nm2 at c0 hb
          go_wp2_with fail
          go_round
          case rel => exact ⟨k + 1, by omega, by go_num, HK.out⟩
          case measure => simp [intOf]; omega
      · obtain rfl : k = M.length := by omega
        have hkM : ¬ ((M.length : Int) < M.length) := by omega
        have hlk := HL.out
        rw [List.take_length] at hlk
        have HK := ahid hlk
        clear hlk
        go_wp2_with fail
        go_ret2
        exact ⟨by rw [H0.out.1, H0.out.2, HK.out]; rfl, (Below.refl _ _).alloc (Nat.le_refl _) _⟩
end Go.Proofs.YtfbbodaapkfbdaaDoor
/- The document's list (muntinref07): Put. -/
namespace Go.Proofs.YtfbbodaapkfbdaaDoor
open Go.RowKit Go.Maps
set_option linter.unusedVariables false
set_option linter.unusedSimpArgs false
theorem info8i : (Tryd.prog.info? 115).map (fun i => (i.zero, i.size, i.bytes)) = some (some (.agg #[.int .u8 0, .int .u8 0, .int .u8 0, .int .u8 0, .bool false, .int .i32 0, .bool false, .string ⟨#[]⟩]), 8, 32) := by kernel_rfl
/-- A struct of two slices, in a box. -/
structure Box2 (w : World) (b : Nat) (lv mv : Value) : Prop where
  c0 : w.cell? ⟨b, 0, none⟩ = some lv
  c1 : w.cell? ⟨b, 1, none⟩ = some mv
  f0 : w.frozen? ⟨b, 0, none⟩ = false
  f1 : w.frozen? ⟨b, 1, none⟩ = false
theorem Box2.lt {w : World} {b : Nat} {lv mv : Value} (h : Box2 w b lv mv) : b < w.heap.size := World.block_lt_of_cell? _ _ h.c0
theorem Box2.new (w : World) (lv mv : Value) (t : TypeId) : Box2 (w.alloc (.cells #[lv, mv] t)) w.heap.size lv mv := by
  have h := heap_alloc_new w (.cells #[lv, mv] t)
  exact ⟨by simp only [World.cell?, h]; rfl, by simp only [World.cell?, h]; rfl, by simp only [World.frozen?, h]; rfl, by simp only [World.frozen?, h]; rfl⟩
theorem Box2.keepB {w w' : World} {B b : Nat} {lv mv : Value} (h : Box2 w b lv mv) (hb : Below B w w') (hl : b < B) : Box2 w' b lv mv :=
  ⟨(hb.cell (p := ⟨b, 0, none⟩) hl).trans h.c0, (hb.cell (p := ⟨b, 1, none⟩) hl).trans h.c1, (hb.frozen (p := ⟨b, 0, none⟩) hl).trans h.f0, (hb.frozen (p := ⟨b, 1, none⟩) hl).trans h.f1⟩
theorem Box2.al {w : World} {b : Nat} {lv mv : Value} (h : Box2 w b lv mv) (o : Obj) : Box2 (w.alloc o) b lv mv := h.keepB ((Below.refl _ _).alloc (Nat.le_refl _) _) h.lt
theorem It.cells_one (it : It) : ∀ u ∈ it.cells, u.oneCell' = true := by
  intro u hu
  cases it <;> simp [It.cells, Ix.cells] at hu <;> (rcases hu with rfl | rfl | rfl | rfl | rfl | rfl | rfl | rfl <;> simp [Value.oneCell'])
theorem items_one (L : List It) : ∀ u ∈ L.flatMap It.cells, u.oneCell' = true := by
  intro u hu
  obtain ⟨it, _, h⟩ := List.mem_flatMap.1 hu
  exact it.cells_one u h
theorem Box2.set {w : World} {b : Nat} {x y : Value} (h : Box2 w b x y) (u v : Value) : Box2 ((w.setCell ⟨b, 0, none⟩ u).setCell ⟨b, 1, none⟩ v) b u v := by
  obtain ⟨c0, c1, f0, f1⟩ := h
  refine ⟨?_, ?_, ?_, ?_⟩
  · exact (World.cell?_setCell_other _ _ _ _ (by simp)).trans (World.cell?_setCell_same _ _ _ c0)
  · exact World.cell?_setCell_same _ _ _ (u := y) ((World.cell?_setCell_other _ _ _ _ (by simp)).trans c1)
  · simpa using f0
  · simpa using f1
theorem Box2.only {w w' : World} {S : Nat → Prop} {b : Nat} (h : Only S w w') (hb : S b) (u v : Value) : Only S w ((w'.setCell ⟨b, 0, none⟩ u).setCell ⟨b, 1, none⟩ v) := (h.setCell (p := ⟨b, 0, none⟩) hb u).setCell (p := ⟨b, 1, none⟩) hb v
/-- The loop of Put. -/
structure RPutAt (w W0 : World) (lv mv : Value) (L : List It) (l : List Ix) (ov : Value) (k : Nat) (wr : World) : Prop where
  own : wr.ownsRow (w.heap.size + 2) 115 8 ov (L.length + k) ((L ++ (l.take k).map It.put).flatMap It.cells)
  may : ∀ (i : Nat) (x : Ix), i < k → l[i]? = some x → mayP x
  below : Below (w.heap.size + 2) W0 wr
theorem RPutAt.more {w W0 wr wA w3 : World} {lv mv ov v3 : Value} {L : List It} {l : List Ix} {k : Nat} {x : Ix} (h : RPutAt w W0 lv mv L l ov k wr) (hW : w.heap.size + 2 ≤ W0.heap.size) (hx : l[k]? = some x) (hm : mayP x) (hb : Below wr.heap.size wr wA)
    (ho : w3.ownsRow (w.heap.size + 2) 115 8 v3 (L.length + k + 1) ((L ++ (l.take k).map It.put).flatMap It.cells ++ It.cells (.put x))) (hg : wA.grownBy w3 ov.ownBlock) : RPutAt w W0 lv mv L l v3 (k + 1) w3 := by
  refine ⟨?_, ?_, ?_⟩
  · rw [(take_get l k x hx).1, List.map_append, ← List.append_assoc, List.flatMap_append]
    simpa [Nat.add_assoc] using ho
  · intro i y hi hy
    by_cases hik : i < k
    · exact h.may i y hik hy
    · obtain rfl : i = k := by omega
      rw [hx] at hy; cases hy; exact hm
  · have hs := h.below.size
    exact (h.below.trans (hb.mono (by omega))).grown hg (by have := hb.size; omega) (fun i hi => (h.own.lt i hi).1)
theorem RPutAt.fin {w W0 wr : World} {lv mv ov : Value} {L : List It} {l : List Ix} (h : RPutAt w W0 lv mv L l ov l.length wr) (u v : Value) : ItemsAt ((wr.setCell ⟨w.heap.size + 1, 0, none⟩ u).setCell ⟨w.heap.size + 1, 1, none⟩ v) ov (L ++ l.map .put) := by
  have ho := h.own
  have hlt := ho.lt
  rw [List.take_length] at ho
  unfold ItemsAt
  rw [List.length_append, List.length_map]
  exact (RowC.of_own ho).keepO (Box2.only (S := fun k => k = w.heap.size + 1) (Only.refl _ wr) rfl u v) (fun k hk e => by have := (hlt k hk).1; omega)
/-- What Put of the document leaves. -/
def RPutOk (w : World) (lv mv : Value) (L : List It) (l : List Ix) (e : Ending) (w' : World) : Prop :=
  ∃ lv', e = .returned (.tuple #[.agg #[lv', mv], .int .i64 (if ∀ x ∈ l, mayP x then 0 else 2)]) ∧ ItemsAt w' lv' (if ∀ x ∈ l, mayP x then L ++ l.map .put else L) ∧ Below w.heap.size w w' ∧ ∀ k, lv'.ownBlock = some k → lv.ownBlock = some k ∨ w.heap.size ≤ k
theorem RPutOk.yes {w w' : World} {lv mv lv' : Value} {L : List It} {l : List Ix} (h : ∀ x ∈ l, mayP x) (hi : ItemsAt w' lv' (L ++ l.map .put)) (hb : Below w.heap.size w w') (hk : ∀ k, lv'.ownBlock = some k → w.heap.size ≤ k) : RPutOk w lv mv L l (.returned (.tuple #[.agg #[lv', mv], .int .i64 0])) w' :=
  ⟨lv', by rw [if_pos h], by rw [if_pos h]; exact hi, hb, fun k e => .inr (hk k e)⟩
theorem RPutOk.no {w w' : World} {lv mv : Value} {L : List It} {l : List Ix} {x : Ix} (hx : x ∈ l) (h : ¬ mayP x) (hi : ItemsAt w' lv L) (hb : Below w.heap.size w w') : RPutOk w lv mv L l (.returned (.tuple #[.agg #[lv, mv], .int .i64 2])) w' := by
  have hn : ¬ ∀ x ∈ l, mayP x := fun h2 => h (h2 x hx)
  exact ⟨lv, by rw [if_neg hn], by rw [if_neg hn]; exact hi, hb, fun k e => .inl e⟩
set_option maxRecDepth 100000 in
set_option maxHeartbeats 2000000 in
theorem rput_any (w : World) (lv mv : Value) (L : List It) (hq : ItemsAt w lv L) (hmv : ∃ pm nm cm, mv = .slice pm nm cm) (v : Value) (l : List Ix) (hl : InsIn w v l) (hL : L.length + l.length < 4294967296) :
    Calls Tryd.prog 42 #[.agg #[lv, mv], v] w (RPutOk w lv mv L l) := by
  obtain ⟨pm, nm, cm, rfl⟩ := hmv
  obtain ⟨hlm, pv, cv, b, o, rfl, hpv, hins⟩ := hl
  have HI := ahid hins
  have HP := ahid hpv
  unfold maxLen at hlm
  obtain ⟨i0, hi, hz0, hz1, hz2⟩ := info_parts info8i
  have HII := ahid (And.intro hi (And.intro hz0 (And.intro hz1 hz2)))
  have HQ := ahid hq
  have hq2 := hq.2
  have hq1 := hq.1
  clear hi hz0 hz1 hz2 hins hpv hq
  have hi := HII.out.1
  have HW1 : Hid ((((w.alloc (.cells #[lv, (.slice pm nm cm)] 60)).alloc (.cells #[.slice none 0 0, .slice none 0 0] 60)).alloc (.cells #[] 115)).ownsRow (w.heap.size + 2) 115 8 (.slice (some ⟨w.heap.size + 1 + 1, 0, none⟩) 0 0) 0 []) := by
    have := World.ownsRow_made (base := w.heap.size + 2) (size := 8) (e := 115) ((w.alloc (.cells #[lv, (.slice pm nm cm)] 60)).alloc (.cells #[.slice none 0 0, .slice none 0 0] 60)) #[] 0 (by simp) (Nat.zero_le _) rfl
    rw [show ((w.alloc (.cells #[lv, (.slice pm nm cm)] 60)).alloc (.cells #[.slice none 0 0, .slice none 0 0] 60)).heap.size = w.heap.size + 1 + 1 by simp] at this
    exact ahid this
  have HB0 := ahid ((Box2.new w lv (.slice pm nm cm) 60).al (.cells #[.slice none 0 0, .slice none 0 0] 60))
  have HR0 : Hid (Box2 ((w.alloc (.cells #[lv, (.slice pm nm cm)] 60)).alloc (.cells #[.slice none 0 0, .slice none 0 0] 60)) (w.heap.size + 1) (.slice none 0 0) (.slice none 0 0)) := by
    have := Box2.new (w.alloc (.cells #[lv, (.slice pm nm cm)] 60)) (.slice none 0 0) (.slice none 0 0) 60
    rw [show (w.alloc (.cells #[lv, (.slice pm nm cm)] 60)).heap.size = w.heap.size + 1 by simp] at this
    exact ahid this
  rcases hq2 with ⟨rfl, hl0⟩ | ⟨g, cap, rfl, hcap1, hcap2, hg, hcells⟩
  · replace hl0 := ahid hl0
    go_enter Tryd.func42, Tryd.ntmps42
    go_wp2_with (first | (at_builtin; refine wpList_append_own_none rfl _ _ 57 rfl (w.heap.size + 2) 115 i0 8 Tryd.underlying57 hi (.slice (some ⟨w.heap.size + 1 + 1, 0, none⟩) 0 0) 0 [] rfl HW1.out rfl ?_))
    have hown1 := HW1.out
    have hb1 : Below (w.heap.size + 2) ((w.alloc (.cells #[.slice none 0 0, (.slice pm nm cm)] 60)).alloc (.cells #[.slice none 0 0, .slice none 0 0] 60)) (((w.alloc (.cells #[.slice none 0 0, (.slice pm nm cm)] 60)).alloc (.cells #[.slice none 0 0, .slice none 0 0] 60)).alloc (.cells #[] 115)) := (Below.refl _ _).alloc (by simp) _
    have HBW := ahid (show Below w.heap.size w ((w.alloc (.cells #[.slice none 0 0, (.slice pm nm cm)] 60)).alloc (.cells #[.slice none 0 0, .slice none 0 0] 60)) from ((Below.refl _ w).alloc (Nat.le_refl _) _).alloc (by simp) _)
    have HZ0 := ahid (show ((w.alloc (.cells #[.slice none 0 0, (.slice pm nm cm)] 60)).alloc (.cells #[.slice none 0 0, .slice none 0 0] 60)).heap.size = w.heap.size + 2 by simp)
    have HNL := ahid (List.eq_nil_of_length_eq_zero hl0.out)
    generalize ((w.alloc (.cells #[.slice none 0 0, (.slice pm nm cm)] 60)).alloc (.cells #[.slice none 0 0, .slice none 0 0] 60)) = W0 at *
    generalize W0.alloc (.cells #[] 115) = w1 at *
    have hsz0 : W0.heap.size = w.heap.size + 2 := HZ0.out
    have HB1 := ahid hb1
    have HS : Hid (RPutAt w W0 (.slice none 0 0) (.slice pm nm cm) L l (.slice (some ⟨w.heap.size + 1 + 1, 0, none⟩) 0 0) 0 w1) := ahid (by have e := HNL.out; subst e; exact ⟨by simpa using hown1, fun i x h => by omega, hb1⟩)
    clear hb1 hown1 HW1
    go_wp2_with fail
    go_loopw [6, 7] (fun v6 i wr => ∃ (k : Nat) (ov : Value), k ≤ l.length ∧ i = .int .i64 k ∧ ov = v6 ∧ RPutAt w W0 (.slice none 0 0) (.slice pm nm cm) L l ov k wr) (fun _ i _ => l.length - (intOf i).toNat)
    case atStart => exact ⟨0, _, Nat.zero_le _, rfl, rfl, HS.out⟩
    case round =>
      obtain ⟨k, ov, hk, rfl, rfl, HR⟩ := hrel
      replace HR := ahid HR
      have hbx := HB0.out.keepB HR.out.below (by omega)
      have hrx := HR0.out.keepB HR.out.below (by omega)
      obtain ⟨b0, b1, bf0, bf1⟩ := hbx
      obtain ⟨r0, r1, rf0, rf1⟩ := hrx
      by_cases hlt : k < l.length
      · obtain ⟨x, hx⟩ : ∃ x, l[k]? = some x := ⟨_, List.getElem?_eq_getElem hlt⟩
        obtain rfl := HP.out (by omega)
        have hbw := HBW.out.trans (HR.out.below.mono (by omega))
        have hxi := (HI.out k x hx).keepb hbw
        have hM := rmay_any x hxi.bd wr
        have c0 := hxi.c0
        have c1 := hxi.c1
        have c2 := hxi.c2
        have c3 := hxi.c3
        have c4 := hxi.c4
        have c5 := hxi.c5
        have HX := ahid hx
        have HXI := ahid hxi
        have HBw := ahid hbw
        have hkl : (k : Int) < l.length := by omega
        clear hx hxi hbw
        by_cases hm : mayP x
        · rw [show mayB x = true from decide_eq_true hm] at hM
          have HMM := ahid hM
          have HM := ahid hm
          clear hM hm
          obtain ⟨op, rd, rs1, rs2, is, imm⟩ := x
          go_wp2_with fail
          refine HMM.out.mono ?_
          rintro e w2 ⟨rfl, hb2⟩
          have hxi2 := HXI.out.keepb hb2
          have hown2 := HR.out.own.kept_below hb2 (by have := HR.out.below.size; omega)
          have HB2 := ahid hb2
          clear hb2 c0 c1 c2 c3 c4 c5
          have c0 := hxi2.c0
          have c1 := hxi2.c1
          have c2 := hxi2.c2
          have c3 := hxi2.c3
          have c4 := hxi2.c4
          have c5 := hxi2.c5
          clear hxi2
          have hi := HII.out.1
          go_wp2_with (first | (at_builtin; refine wpList_append_own _ rfl _ _ 57 rfl (w.heap.size + 2) 115 i0 _ 8 32 Tryd.underlying57 hi HII.out.2.1 HII.out.2.2.1 HII.out.2.2.2 rfl (by decide) ov (L.length + k) _ rfl (hown2.alloc _) ⟨w2.heap.size, 0, none⟩ 1 1 [.int .u8 op, .int .u8 rd, .int .u8 rs1, .int .u8 rs2, .bool is, .int .i32 imm, .bool false, .string ⟨#[]⟩] rfl rfl (cells_new w2 _ _) (by simp [Value.oneCell']) (by unfold maxLen; omega) (by omega) (by have := HR.out.below.size; have := HB2.out.size; simp; omega) ?_; intro v3 w3 hown3 hg3 hnil3))
          have hmore := HR.out.more (by omega) HX.out HM.out (HB2.out.alloc HB2.out.size _) hown3 hg3
          go_roundw
          case rel => exact ⟨k + 1, v3, by omega, by go_num, rfl, hmore⟩
          case measure => simp [intOf]; omega
        · rw [show mayB x = false from decide_eq_false hm] at hM
          have HMM := ahid hM
          have HM := ahid hm
          clear hM hm
          obtain ⟨op, rd, rs1, rs2, is, imm⟩ := x
          go_wp2_with fail
          refine HMM.out.mono ?_
          rintro e w2 ⟨rfl, hb2⟩
          have hbx := HB0.out.keepB (HR.out.below.trans (hb2.mono (by have := HR.out.below.size; omega))) (by omega)
          have hrx := HR0.out.keepB (HR.out.below.trans (hb2.mono (by have := HR.out.below.size; omega))) (by omega)
          have HB2 := ahid hb2
          clear hb2 c0 c1 c2 c3 c4 c5 b0 b1 bf0 bf1 r0 r1 rf0 rf1
          obtain ⟨b0, b1, bf0, bf1⟩ := hbx
          obtain ⟨r0, r1, rf0, rf1⟩ := hrx
          go_wp2_with fail
          have hS := (Box2.mk r0 r1 rf0 rf1).set (.slice none 0 0) (.slice pm nm cm)
          have hbel : Below w.heap.size w ((w2.setCell ⟨w.heap.size + 1, 0, none⟩ (.slice none 0 0)).setCell ⟨w.heap.size + 1, 1, none⟩ (.slice pm nm cm)) := (((HBW.out.trans (HR.out.below.mono (by omega))).trans (HB2.out.mono (by have := HR.out.below.size; omega))).setCell (by simp) _).setCell (by simp) _
          have HBL := ahid hbel
          have hIt := RPutOk.no (lv := (.slice none 0 0)) (mv := .slice pm nm cm) (List.mem_of_getElem? HX.out) HM.out (HQ.out.keep hbel) hbel
          clear hbel b0 b1 bf0 bf1 r0 r1 rf0 rf1
          generalize (w2.setCell ⟨w.heap.size + 1, 0, none⟩ (.slice none 0 0)).setCell ⟨w.heap.size + 1, 1, none⟩ (.slice pm nm cm) = W9 at *
          obtain ⟨s0, s1, _, _⟩ := hS
          refine bodyPost_ret (by simp [results, Tryd.results42, go_sem, s0, s1]; try rfl) rfl ?_
          exact hIt
      · obtain rfl : k = l.length := by omega
        have hkl : ¬ ((l.length : Int) < l.length) := by omega
        have hall : ∀ x ∈ l, mayP x := fun x hx => by
          obtain ⟨i, hi, he⟩ := List.mem_iff_getElem.1 hx
          exact HR.out.may i x hi (by rw [List.getElem?_eq_getElem hi, he])
        have HL := ahid hall
        clear hall
        have hor := HR.out.own.2
        rcases hor with ⟨rfl, _⟩ | ⟨gr, cr, _, rfl, _⟩
        · go_wp2_with fail
          have hS := (Box2.mk r0 r1 rf0 rf1).set (.slice none 0 0) (.slice pm nm cm)
          have hbel : Below w.heap.size w ((wr.setCell ⟨w.heap.size + 1, 0, none⟩ (.slice none 0 0)).setCell ⟨w.heap.size + 1, 1, none⟩ (.slice pm nm cm)) := ((HBW.out.trans (HR.out.below.mono (by omega))).setCell (by simp) _).setCell (by simp) _
          have hfin := HR.out.fin (.slice none 0 0) (.slice pm nm cm)
          have hIt := RPutOk.yes (lv := (.slice none 0 0)) (mv := .slice pm nm cm) HL.out hfin hbel (fun kk hkk => by have := (HR.out.own.lt kk hkk).1; omega)
          clear hbel hfin b0 b1 bf0 bf1 r0 r1 rf0 rf1
          generalize (wr.setCell ⟨w.heap.size + 1, 0, none⟩ (.slice none 0 0)).setCell ⟨w.heap.size + 1, 1, none⟩ (.slice pm nm cm) = W9 at *
          obtain ⟨s0, s1, _, _⟩ := hS
          refine bodyPost_ret (by simp [results, Tryd.results42, go_sem, s0, s1]; try rfl) rfl ?_
          exact hIt
        · go_wp2_with fail
          have hS := (Box2.mk r0 r1 rf0 rf1).set (.slice (some ⟨gr, 0, none⟩) (L.length + l.length) cr) (.slice pm nm cm)
          have hbel : Below w.heap.size w ((wr.setCell ⟨w.heap.size + 1, 0, none⟩ (.slice (some ⟨gr, 0, none⟩) (L.length + l.length) cr)).setCell ⟨w.heap.size + 1, 1, none⟩ (.slice pm nm cm)) := ((HBW.out.trans (HR.out.below.mono (by omega))).setCell (by simp) _).setCell (by simp) _
          have hfin := HR.out.fin (.slice (some ⟨gr, 0, none⟩) (L.length + l.length) cr) (.slice pm nm cm)
          have hIt := RPutOk.yes (lv := (.slice none 0 0)) (mv := .slice pm nm cm) HL.out hfin hbel (fun kk hkk => by have := (HR.out.own.lt kk hkk).1; omega)
          clear hbel hfin b0 b1 bf0 bf1 r0 r1 rf0 rf1
          generalize (wr.setCell ⟨w.heap.size + 1, 0, none⟩ (.slice (some ⟨gr, 0, none⟩) (L.length + l.length) cr)).setCell ⟨w.heap.size + 1, 1, none⟩ (.slice pm nm cm) = W9 at *
          obtain ⟨s0, s1, _, _⟩ := hS
          refine bodyPost_ret (by simp [results, Tryd.results42, go_sem, s0, s1]; try rfl) rfl ?_
          exact hIt
  · have HC := ahid hcells
    go_enter Tryd.func42, Tryd.ntmps42
    go_wp2_with (first | (at_builtin; refine wpList_append_own _ rfl _ _ 57 rfl (w.heap.size + 2) 115 i0 _ 8 32 Tryd.underlying57 hi HII.out.2.1 HII.out.2.2.1 HII.out.2.2.2 rfl (by decide) (.slice (some ⟨w.heap.size + 1 + 1, 0, none⟩) 0 0) 0 [] rfl HW1.out ⟨g, 0, none⟩ L.length cap (L.flatMap It.cells) rfl HQ.out.1 (fun j u hu => by rw [addr_add0]; exact Lib.cell?_alloc_some _ (Lib.cell?_alloc_some _ (Lib.cell?_alloc_some _ (HC.out j u hu)))) (items_one L) (by unfold maxLen; omega) (by omega) (by simp <;> omega) ?_; intro v1 w1 hown1 hg1 hnil1; rw [Nat.zero_add, List.nil_append] at hown1))
    have hb1 : Below (w.heap.size + 2) ((w.alloc (.cells #[.slice (some ⟨g, 0, none⟩) L.length cap, (.slice pm nm cm)] 60)).alloc (.cells #[.slice none 0 0, .slice none 0 0] 60)) w1 := ((Below.refl _ _).alloc (by simp) _).grown hg1 (by simp <;> omega) (fun k hk => by cases hk; exact Nat.le_refl _)
    have HBW := ahid (show Below w.heap.size w ((w.alloc (.cells #[.slice (some ⟨g, 0, none⟩) L.length cap, (.slice pm nm cm)] 60)).alloc (.cells #[.slice none 0 0, .slice none 0 0] 60)) from ((Below.refl _ w).alloc (Nat.le_refl _) _).alloc (by simp) _)
    have HZ0 := ahid (show ((w.alloc (.cells #[.slice (some ⟨g, 0, none⟩) L.length cap, (.slice pm nm cm)] 60)).alloc (.cells #[.slice none 0 0, .slice none 0 0] 60)).heap.size = w.heap.size + 2 by simp)
    clear hg1 hnil1
    generalize ((w.alloc (.cells #[.slice (some ⟨g, 0, none⟩) L.length cap, (.slice pm nm cm)] 60)).alloc (.cells #[.slice none 0 0, .slice none 0 0] 60)) = W0 at *
    have hsz0 : W0.heap.size = w.heap.size + 2 := HZ0.out
    have HB1 := ahid hb1
    have HS : Hid (RPutAt w W0 (.slice (some ⟨g, 0, none⟩) L.length cap) (.slice pm nm cm) L l v1 0 w1) := ahid ⟨by simpa using hown1, fun i x h => by omega, hb1⟩
    clear hb1 hown1 HW1
    go_wp2_with fail
    go_loopw [6, 7] (fun v6 i wr => ∃ (k : Nat) (ov : Value), k ≤ l.length ∧ i = .int .i64 k ∧ ov = v6 ∧ RPutAt w W0 (.slice (some ⟨g, 0, none⟩) L.length cap) (.slice pm nm cm) L l ov k wr) (fun _ i _ => l.length - (intOf i).toNat)
    case atStart => exact ⟨0, _, Nat.zero_le _, rfl, rfl, HS.out⟩
    case round =>
      obtain ⟨k, ov, hk, rfl, rfl, HR⟩ := hrel
      replace HR := ahid HR
      have hbx := HB0.out.keepB HR.out.below (by omega)
      have hrx := HR0.out.keepB HR.out.below (by omega)
      obtain ⟨b0, b1, bf0, bf1⟩ := hbx
      obtain ⟨r0, r1, rf0, rf1⟩ := hrx
      by_cases hlt : k < l.length
      · obtain ⟨x, hx⟩ : ∃ x, l[k]? = some x := ⟨_, List.getElem?_eq_getElem hlt⟩
        obtain rfl := HP.out (by omega)
        have hbw := HBW.out.trans (HR.out.below.mono (by omega))
        have hxi := (HI.out k x hx).keepb hbw
        have hM := rmay_any x hxi.bd wr
        have c0 := hxi.c0
        have c1 := hxi.c1
        have c2 := hxi.c2
        have c3 := hxi.c3
        have c4 := hxi.c4
        have c5 := hxi.c5
        have HX := ahid hx
        have HXI := ahid hxi
        have HBw := ahid hbw
        have hkl : (k : Int) < l.length := by omega
        clear hx hxi hbw
        by_cases hm : mayP x
        · rw [show mayB x = true from decide_eq_true hm] at hM
          have HMM := ahid hM
          have HM := ahid hm
          clear hM hm
          obtain ⟨op, rd, rs1, rs2, is, imm⟩ := x
          go_wp2_with fail
          refine HMM.out.mono ?_
          rintro e w2 ⟨rfl, hb2⟩
          have hxi2 := HXI.out.keepb hb2
          have hown2 := HR.out.own.kept_below hb2 (by have := HR.out.below.size; omega)
          have HB2 := ahid hb2
          clear hb2 c0 c1 c2 c3 c4 c5
          have c0 := hxi2.c0
          have c1 := hxi2.c1
          have c2 := hxi2.c2
          have c3 := hxi2.c3
          have c4 := hxi2.c4
          have c5 := hxi2.c5
          clear hxi2
          have hi := HII.out.1
          go_wp2_with (first | (at_builtin; refine wpList_append_own _ rfl _ _ 57 rfl (w.heap.size + 2) 115 i0 _ 8 32 Tryd.underlying57 hi HII.out.2.1 HII.out.2.2.1 HII.out.2.2.2 rfl (by decide) ov (L.length + k) _ rfl (hown2.alloc _) ⟨w2.heap.size, 0, none⟩ 1 1 [.int .u8 op, .int .u8 rd, .int .u8 rs1, .int .u8 rs2, .bool is, .int .i32 imm, .bool false, .string ⟨#[]⟩] rfl rfl (cells_new w2 _ _) (by simp [Value.oneCell']) (by unfold maxLen; omega) (by omega) (by have := HR.out.below.size; have := HB2.out.size; simp; omega) ?_; intro v3 w3 hown3 hg3 hnil3))
          have hmore := HR.out.more (by omega) HX.out HM.out (HB2.out.alloc HB2.out.size _) hown3 hg3
          go_roundw
          case rel => exact ⟨k + 1, v3, by omega, by go_num, rfl, hmore⟩
          case measure => simp [intOf]; omega
        · rw [show mayB x = false from decide_eq_false hm] at hM
          have HMM := ahid hM
          have HM := ahid hm
          clear hM hm
          obtain ⟨op, rd, rs1, rs2, is, imm⟩ := x
          go_wp2_with fail
          refine HMM.out.mono ?_
          rintro e w2 ⟨rfl, hb2⟩
          have hbx := HB0.out.keepB (HR.out.below.trans (hb2.mono (by have := HR.out.below.size; omega))) (by omega)
          have hrx := HR0.out.keepB (HR.out.below.trans (hb2.mono (by have := HR.out.below.size; omega))) (by omega)
          have HB2 := ahid hb2
          clear hb2 c0 c1 c2 c3 c4 c5 b0 b1 bf0 bf1 r0 r1 rf0 rf1
          obtain ⟨b0, b1, bf0, bf1⟩ := hbx
          obtain ⟨r0, r1, rf0, rf1⟩ := hrx
          go_wp2_with fail
          have hS := (Box2.mk r0 r1 rf0 rf1).set (.slice (some ⟨g, 0, none⟩) L.length cap) (.slice pm nm cm)
          have hbel : Below w.heap.size w ((w2.setCell ⟨w.heap.size + 1, 0, none⟩ (.slice (some ⟨g, 0, none⟩) L.length cap)).setCell ⟨w.heap.size + 1, 1, none⟩ (.slice pm nm cm)) := (((HBW.out.trans (HR.out.below.mono (by omega))).trans (HB2.out.mono (by have := HR.out.below.size; omega))).setCell (by simp) _).setCell (by simp) _
          have HBL := ahid hbel
          have hIt := RPutOk.no (lv := (.slice (some ⟨g, 0, none⟩) L.length cap)) (mv := .slice pm nm cm) (List.mem_of_getElem? HX.out) HM.out (HQ.out.keep hbel) hbel
          clear hbel b0 b1 bf0 bf1 r0 r1 rf0 rf1
          generalize (w2.setCell ⟨w.heap.size + 1, 0, none⟩ (.slice (some ⟨g, 0, none⟩) L.length cap)).setCell ⟨w.heap.size + 1, 1, none⟩ (.slice pm nm cm) = W9 at *
          obtain ⟨s0, s1, _, _⟩ := hS
          refine bodyPost_ret (by simp [results, Tryd.results42, go_sem, s0, s1]; try rfl) rfl ?_
          exact hIt
      · obtain rfl : k = l.length := by omega
        have hkl : ¬ ((l.length : Int) < l.length) := by omega
        have hall : ∀ x ∈ l, mayP x := fun x hx => by
          obtain ⟨i, hi, he⟩ := List.mem_iff_getElem.1 hx
          exact HR.out.may i x hi (by rw [List.getElem?_eq_getElem hi, he])
        have HL := ahid hall
        clear hall
        have hor := HR.out.own.2
        rcases hor with ⟨rfl, _⟩ | ⟨gr, cr, _, rfl, _⟩
        · go_wp2_with fail
          have hS := (Box2.mk r0 r1 rf0 rf1).set (.slice none 0 0) (.slice pm nm cm)
          have hbel : Below w.heap.size w ((wr.setCell ⟨w.heap.size + 1, 0, none⟩ (.slice none 0 0)).setCell ⟨w.heap.size + 1, 1, none⟩ (.slice pm nm cm)) := ((HBW.out.trans (HR.out.below.mono (by omega))).setCell (by simp) _).setCell (by simp) _
          have hfin := HR.out.fin (.slice none 0 0) (.slice pm nm cm)
          have hIt := RPutOk.yes (lv := (.slice (some ⟨g, 0, none⟩) L.length cap)) (mv := .slice pm nm cm) HL.out hfin hbel (fun kk hkk => by have := (HR.out.own.lt kk hkk).1; omega)
          clear hbel hfin b0 b1 bf0 bf1 r0 r1 rf0 rf1
          generalize (wr.setCell ⟨w.heap.size + 1, 0, none⟩ (.slice none 0 0)).setCell ⟨w.heap.size + 1, 1, none⟩ (.slice pm nm cm) = W9 at *
          obtain ⟨s0, s1, _, _⟩ := hS
          refine bodyPost_ret (by simp [results, Tryd.results42, go_sem, s0, s1]; try rfl) rfl ?_
          exact hIt
        · go_wp2_with fail
          have hS := (Box2.mk r0 r1 rf0 rf1).set (.slice (some ⟨gr, 0, none⟩) (L.length + l.length) cr) (.slice pm nm cm)
          have hbel : Below w.heap.size w ((wr.setCell ⟨w.heap.size + 1, 0, none⟩ (.slice (some ⟨gr, 0, none⟩) (L.length + l.length) cr)).setCell ⟨w.heap.size + 1, 1, none⟩ (.slice pm nm cm)) := ((HBW.out.trans (HR.out.below.mono (by omega))).setCell (by simp) _).setCell (by simp) _
          have hfin := HR.out.fin (.slice (some ⟨gr, 0, none⟩) (L.length + l.length) cr) (.slice pm nm cm)
          have hIt := RPutOk.yes (lv := (.slice (some ⟨g, 0, none⟩) L.length cap)) (mv := .slice pm nm cm) HL.out hfin hbel (fun kk hkk => by have := (HR.out.own.lt kk hkk).1; omega)
          clear hbel hfin b0 b1 bf0 bf1 r0 r1 rf0 rf1
          generalize (wr.setCell ⟨w.heap.size + 1, 0, none⟩ (.slice (some ⟨gr, 0, none⟩) (L.length + l.length) cr)).setCell ⟨w.heap.size + 1, 1, none⟩ (.slice pm nm cm) = W9 at *
          obtain ⟨s0, s1, _, _⟩ := hS
          refine bodyPost_ret (by simp [results, Tryd.results42, go_sem, s0, s1]; try rfl) rfl ?_
          exact hIt
end Go.Proofs.YtfbbodaapkfbdaaDoor
