/- Several texts in one: AsmCopy, AsmStep, AsmRMark, AsmAct, AsmHead, BootLst, WindA, LexRange. -/
import Derived.Test.YtajholbcpmjhiaaGreatDoorH25
import Derived.Shelf.SlMaps.Clone
import Derived.Deep.AppendLies
import Derived.BigGuardPart
import Derived.Lib.ParseIntB
import Derived.Lib.ItoaNum
import Derived.Shelf.Strings.Cut
import Derived.Shelf.Small.Wraps
import Derived.Shelf.Pu.ParseUintPublic10
import Derived.Shelf.Strconv.Itoa3
import Derived.WalkSmall
import Derived.Lib.IndexMore
set_option linter.unusedVariables false
set_option linter.unusedSimpArgs false
/- Walks of the package asm: Copy; the library's clones. -/
namespace Go.Proofs.YtajholbcpmjhiaaGreatDoor
open Go.RowKit Go.Maps
set_option maxRecDepth 100000 in
theorem acell {W w1 : World} (hb : Below W.heap.size W w1) : (∀ b o, b < W.heap.size → w1.cell? ⟨b, o, none⟩ = W.cell? ⟨b, o, none⟩) ∧ (∀ b o, b < W.heap.size → w1.frozen? ⟨b, o, none⟩ = W.frozen? ⟨b, o, none⟩) :=
  ⟨fun b o h => hb.cell (p := ⟨b, o, none⟩) h, fun b o h => hb.frozen (p := ⟨b, o, none⟩) h⟩
set_option maxRecDepth 100000 in
theorem mclone_any (w : World) (m n : Nat) (D : DataW Unit) (h : w.ownsMap Tryz.prog 9 (plainElem Tryz.prog 3) m n D) :
    Calls Tryz.prog 136 #[.map (some m)] w fun e w' => e = .returned (.map (some w.heap.size)) ∧ w'.ownsMap Tryz.prog 9 (plainElem Tryz.prog 3) w.heap.size n D ∧ Below w.heap.size w w' := by
  obtain ⟨es, cl, hb, F, hz, hD⟩ := h
  have hq := fun w => run_eql_map_nil_sl (P := Tryz.prog) w 133 _ _ (some m) Tryz.underlying133
  have HB := ahid hb
  have HF := ahid (And.intro F (And.intro hz hD))
  clear hb F hz hD
  go_enter Tryz.func136, Tryz.ntmps136
  go_wp2
  rw [run_callFunc_extern Tryz.func192 (by kernel_rfl) (by kernel_rfl) (by kernel_rfl) (e := Extern.MapsClone.clone) (by kernel_rfl), run_maps_clone_sl w 133 HB.out]
  simp only [Result.andThen]
  rw [Oper.upon_value]
  go_wp2
  rw [run_typeAssert_map_sl _ 133 20 _ _ _ Tryz.underlying133]
  simp only [Result.andThen]
  rw [Oper.upon_value]
  go_wp2
  go_ret
  exact ⟨rfl, ⟨es, cl, (MapKept.heap_alloc w _).1, HF.out⟩, (Below.refl _ _).alloc (Nat.le_refl _) _⟩
def likeSl (v : Value) (g n cap : Nat) : Value := match v with | .slice none _ _ => .slice none 0 0 | _ => .slice (some ⟨g, 0, none⟩) n cap
set_option maxRecDepth 100000 in
theorem aclone_any (w : World) (sv : Value) (n : Nat) (vs : List Value) (h : w.ownsRow 0 150 1 sv n vs) (h1 : ∀ u ∈ vs, u.oneCell' = true) (hn : n < 4294967296) :
    Calls Tryz.prog 135 #[sv] w fun e w' => ∃ g' cap', e = .returned (likeSl sv g' n cap') ∧ w'.ownsRow w.heap.size 150 1 (likeSl sv g' n cap') n vs ∧ Below w.heap.size w w' := by
  obtain ⟨i0, hi, hz0, hz1, hz2⟩ := info_parts infow
  rcases h.2 with ⟨rfl, hl0⟩ | ⟨g, cap, cur, rfl, hrest⟩
  · have q22 : ∀ (w : World) (a : Option Addr) (n c n' c' : Nat), (binOp .eql 134 (.slice a n c) (.slice none n' c')).run Tryz.prog w = .ok (.bool a.isNone) w := fun w a n c n' c' => Lib.run_eql_slice_nil w _ _ a n c n' c' Tryz.underlying134
    obtain rfl : vs = [] := List.eq_nil_of_length_eq_zero (by rw [h.1, hl0])
    subst hl0
    clear h h1
    have HZ := ahid (World.ownsRow_nil w w.heap.size 150 1)
    go_enter Tryz.func135, Tryz.ntmps135
    go_wp2
    go_ret
    exact ⟨0, 0, rfl, HZ.out, Below.refl _ _⟩
  · have q22 : ∀ (w : World) (a : Option Addr) (n c n' c' : Nat), (binOp .eql 134 (.slice a n c) (.slice none n' c')).run Tryz.prog w = .ok (.bool a.isNone) w := fun w a n c n' c' => Lib.run_eql_slice_nil w _ _ a n c n' c' Tryz.underlying134
    have hc := h.cells rfl
    have hl := h.1
    have HC := ahid (And.intro hc (And.intro hl h1))
    clear hc hl h1 h hrest
    go_enter Tryz.func135, Tryz.ntmps135
    go_wp2_with (at_builtin; refine wpList_append_own _ rfl _ _ 134 rfl w.heap.size 150 i0 _ 1 8 Tryz.underlying134 hi hz0 hz1 hz2 rfl (by decide) (.slice (some ⟨w.heap.size, 0, none⟩) 0 0) _ _ rfl (World.ownsRow_made w #[] 0 (Nat.le_refl _) (Nat.zero_le _) (by simp)) ⟨g, 0, none⟩ n cap vs rfl HC.out.2.1 (fun j u hj => Lib.cell?_alloc_some _ (HC.out.1 j u hj)) HC.out.2.2 (by unfold maxLen; omega) (by omega) (by simp) ?_; intro v' w1 hown hgrow hnil; rw [Nat.zero_add, List.nil_append] at hown)
    go_wp2
    go_ret
    rcases hown.2 with ⟨h, _⟩ | ⟨g', cap', _, rfl, _⟩
    · exact absurd (hnil.1 h).1 (by simp)
    refine ⟨g', cap', rfl, hown, ?_⟩
    exact ((Below.refl _ w).alloc (Nat.le_refl _) _).grown hgrow (by simp) (by intro k hk; simp [Value.ownBlock] at hk; omega)
def CopyOk (w : World) (K : Nat → Prop) (L : List It) (M : List (List UInt8 × Int)) (e : Ending) (w' : World) : Prop :=
  ∃ p v m, e = .returned (.pointer (some ⟨p, 0, none⟩)) ∧ (∀ k, Own p v m k → w.heap.size ≤ k) ∧ AsmAt w' p v m (fun k => K k ∧ k < w.heap.size) L M ∧ Below w.heap.size w w'
set_option maxRecDepth 100000 in
theorem AsmAt.copy {w W : World} {m' : Nat} {v' : Value} {K : Nat → Prop} {L : List It} {M : List (List UInt8 × Int)} {vs : List Value} {D : DataW Unit} (hb : Below w.heap.size w W)
    (ho : W.ownsRow w.heap.size 150 1 v' L.length vs) (hlen : vs.length = L.length) (hvs : ∀ (i : Nat) (v : Value) (it : It), vs[i]? = some v → L[i]? = some it → CloAt w K v it)
    (hm : W.ownsMap Tryz.prog 9 (plainElem Tryz.prog 3) m' M.length D) (hD : MarkD D M) (hmz : w.heap.size ≤ m') :
    CopyOk w K L M (.returned (.pointer (some ⟨W.heap.size, 0, none⟩))) (W.alloc (.cells #[v', .map (some m')] 136)) := by
  have hml := hm.lt
  have hvl := ho.lt
  have hbs := hb.size
  have hb2 : Below w.heap.size w (W.alloc (.cells #[v', .map (some m')] 136)) := hb.alloc hbs _
  have hne : v'.ownBlock ≠ some m' := fun e => by
    rcases ho.2 with ⟨rfl, _⟩ | ⟨g, cap, cur, rfl, _, hc, _⟩
    · simp [Value.ownBlock] at e
    · obtain ⟨es, cl, hmb, _⟩ := hm
      simp only [Value.ownBlock, Option.some.injEq] at e
      subst e
      rw [hc] at hmb; cases hmb
  refine ⟨_, v', m', rfl, ?_, ⟨(MapKept.heap_alloc W _).1, ⟨vs, ⟨ho.1, ?_⟩, hlen, ?_⟩, ⟨D, hm.alloc _, hD⟩, ⟨by omega, fun e => by have := (hvl _ e).2; omega, hne⟩, ?_⟩, hb2⟩
  · rintro k (rfl | h | rfl)
    · exact hbs
    · exact (hvl k h).1
    · exact hmz
  · rcases (ho.alloc (.cells #[v', .map (some m')] 136)).2 with h | ⟨g, cap, cur, h1, _, h2⟩
    · exact .inl h
    · exact .inr ⟨g, cap, cur, h1, Nat.zero_le _, h2⟩
  · intro i v it hv hi
    exact (hvs i v it hv hi).keep (Only.of_below (S := fun _ => False) hb2) (fun _ _ h => h) (fun k hk h => ⟨h, hk⟩)
  · intro k hk
    exact ⟨by omega, fun e => by have := (hvl _ e).1; omega, by omega⟩
set_option maxRecDepth 100000 in
theorem acopy_none (w : World) (a : Value) (hn : Calls Tryz.prog 78 #[a] w fun e w' => e = .returned (.bool true) ∧ w = w') :
    Calls Tryz.prog 81 #[a] w fun e w' => e = .returned (.pointer none) ∧ w = w' := by
  go_enter Tryz.func81, Tryz.ntmps81
  go_wp2_with fail
  refine hn.mono ?_
  rintro e w' ⟨rfl, rfl⟩
  go_wp2_with fail
  go_ret
  exact ⟨rfl, rfl⟩
set_option maxRecDepth 100000 in
set_option maxHeartbeats 2000000 in
theorem acopy_any (w : World) (p m : Nat) (sv : Value) (K : Nat → Prop) (L : List It) (M : List (List UInt8 × Int)) (h : AsmAt w p sv m K L M) (hL : L.length < 4294967296) :
    Calls Tryz.prog 81 #[.pointer (some ⟨p, 0, none⟩)] w (CopyOk w K L M) := by
  obtain ⟨c0, c1, f0, f1⟩ := h.cells
  have HN := ahid (anone_made w p m c1)
  obtain ⟨hp, hm, hs⟩ := h.blocks
  obtain ⟨vs, hown, hlen, hvs⟩ := h.row
  obtain ⟨D, hmap, hD⟩ := h.marks
  have h1 : ∀ u ∈ vs, u.oneCell' = true := fun u hu => by
    obtain ⟨i, hi, he⟩ := List.mem_iff_getElem.1 hu
    have hc := hvs i u L[i] (by rw [List.getElem?_eq_getElem hi, he]) (List.getElem?_eq_getElem (by omega))
    cases hit : L[i] with
    | put x => rw [hit] at hc; obtain ⟨c, hc, _⟩ := hc; rw [hc]; simp [Value.oneCell']
    | far x nm => rw [hit] at hc; obtain ⟨c, d, hc, _⟩ := hc; rw [hc]; simp [Value.oneCell']
  have HS := ahid (fun W (hW : Below w.heap.size w W) => (aclone_any W sv L.length vs (hown.keepw (Only.of_below (S := fun _ => False) hW) (fun _ _ h => h)) h1 hL).mono (R' := fun e W' => ∃ g' cap', e = .returned (likeSl sv g' L.length cap') ∧ W'.ownsRow w.heap.size 150 1 (likeSl sv g' L.length cap') L.length vs ∧ W'.cell? ⟨p, 0, none⟩ = some sv ∧ W'.cell? ⟨p, 1, none⟩ = some (.map (some m)) ∧ Below w.heap.size w W' ∧ Below W.heap.size W W')
    fun e W' ⟨g', cap', he, ho, hb⟩ => by
      have hb2 := hW.trans (hb.mono hW.size)
      refine ⟨g', cap', he, ⟨ho.1, ?_⟩, ((acell hb2).1 _ _ hp).trans c0, ((acell hb2).1 _ _ hp).trans c1, hb2, hb⟩
      rcases ho.2 with h | ⟨g, cap, cur, e1, e2, e3⟩
      · exact .inl h
      · exact .inr ⟨g, cap, cur, e1, Nat.le_trans hW.size e2, e3⟩)
  have HM := ahid (fun W (hW : Below w.heap.size w W) => (mclone_any W m M.length D (by
    obtain ⟨es, cl, hb, F, hz, hDD⟩ := hmap
    exact ⟨es, cl, (hW.block m (lt_of_block hb)).trans hb, F, hz, hDD⟩)).mono (R' := fun e W' => ∃ m', e = .returned (.map (some m')) ∧ w.heap.size ≤ m' ∧ W'.ownsMap Tryz.prog 9 (plainElem Tryz.prog 3) m' M.length D ∧ W'.cell? ⟨p, 0, none⟩ = some sv ∧ W'.cell? ⟨p, 1, none⟩ = some (.map (some m)) ∧ Below w.heap.size w W' ∧ Below W.heap.size W W')
    fun e W' ⟨he, ho, hb⟩ => by
      have hb2 := hW.trans (hb.mono hW.size)
      exact ⟨_, he, hW.size, ho, ((acell hb2).1 _ _ hp).trans c0, ((acell hb2).1 _ _ hp).trans c1, hb2, hb⟩)
  have HV := ahid (And.intro hlen (And.intro hvs hD))
  have hsl := h.slice
  clear h f0 f1 hs hown hlen hvs hmap hD h1 hm
  rcases hsl with ⟨rfl, _⟩ | ⟨gs, caps, rfl, _, _⟩
  · simp only [likeSl] at HS
    go_enter Tryz.func81, Tryz.ntmps81
    go_wp2_with fail
    refine HN.out.mono ?_
    rintro e w' ⟨rfl, rfl⟩
    go_wp2_with fail
    have hb0 := Below.refl w.heap.size w
    go_region_held3 (fun w' => w'.cell? ⟨p, 0, none⟩ = some (.slice none 0 0) ∧ w'.cell? ⟨p, 1, none⟩ = some (.map (some m)) ∧ Below w.heap.size w w') (first | exact ⟨c0, c1, hb0.drew⟩ | exact ⟨c0, c1, hb0⟩ | exact ⟨k0, k1, kb⟩ | exact ⟨l0, l1, lb⟩ | exact ⟨Lib.cell?_alloc_some _ l0, Lib.cell?_alloc_some _ l1, lb.alloc lb.size _⟩ | exact hb0.drew | exact kb | exact lb | (go_keep; done))
      (first
      | (go_at_call 135; refine (HS.out _ ?hb).mono ?_; (case hb => first | exact hb0 | exact hb0.drew | assumption | go_grown); rintro e W1 ⟨g1, cap1, rfl, ho1, k0, k1, kb, kk⟩)
      | (go_at_call 136; refine (HM.out _ ?hb).mono ?_; (case hb => first | exact hb0 | exact hb0.drew | assumption | go_grown); rintro e W2 ⟨m2, rfl, hm2, ho2, l0, l1, lb, ll⟩))
    go_wp2_with fail
    go_ret
    exact AsmAt.copy lb (ho1.kept_below ll kb.size) HV.out.1 HV.out.2.1 ho2 HV.out.2.2 hm2
  · simp only [likeSl] at HS
    go_enter Tryz.func81, Tryz.ntmps81
    go_wp2_with fail
    refine HN.out.mono ?_
    rintro e w' ⟨rfl, rfl⟩
    go_wp2_with fail
    have hb0 := Below.refl w.heap.size w
    go_region_held3 (fun w' => w'.cell? ⟨p, 0, none⟩ = some (.slice (some ⟨gs, 0, none⟩) L.length caps) ∧ w'.cell? ⟨p, 1, none⟩ = some (.map (some m)) ∧ Below w.heap.size w w') (first | exact ⟨c0, c1, hb0.drew⟩ | exact ⟨c0, c1, hb0⟩ | exact ⟨k0, k1, kb⟩ | exact ⟨l0, l1, lb⟩ | exact ⟨Lib.cell?_alloc_some _ l0, Lib.cell?_alloc_some _ l1, lb.alloc lb.size _⟩ | exact hb0.drew | exact kb | exact lb | (go_keep; done))
      (first
      | (go_at_call 135; refine (HS.out _ ?hb).mono ?_; (case hb => first | exact hb0 | exact hb0.drew | assumption | go_grown); rintro e W1 ⟨g1, cap1, rfl, ho1, k0, k1, kb, kk⟩)
      | (go_at_call 136; refine (HM.out _ ?hb).mono ?_; (case hb => first | exact hb0 | exact hb0.drew | assumption | go_grown); rintro e W2 ⟨m2, rfl, hm2, ho2, l0, l1, lb, ll⟩))
    go_wp2_with fail
    go_ret
    exact AsmAt.copy lb (ho1.kept_below ll kb.size) HV.out.1 HV.out.2.1 ho2 HV.out.2.2 hm2
end Go.Proofs.YtajholbcpmjhiaaGreatDoor
/- append at a step of a region that draws its order: from nil; onto a slice of one's own that is not nil. No function of the program is walked here. -/
namespace Go.Proofs.YtajholbcpmjhiaaGreatDoor
open Go
variable {P : Program} (w : World)
theorem step_append_none {ops : Array Oper} {o : Oper} {a : Act} {K : Act → World → Prop} {Q : Exit → Act → World → Prop} {E : Prop} (hgd : o.guard = none) (s x : Operand) (t : TypeId)
    (ho : o.op = .call { callee := .builtin .append, args := #[s, x], argTypes := #[t, t] })
    (base : Nat) (e : TypeId) (i : TypeInfo) (size : Nat) (ht : P.underlying t = some (.slice e)) (hi : P.info? e = some i)
    (v : Value) (n : Nat) (xs : List Value) (hs : a.eval s = v) (hown : w.ownsRow base e size v n xs) (hx : a.eval x = .slice none 0 0) (h : K (a.put o.dst v) w) :
    if Region.wanted o (yielded ops a.tmps) = true then Oper.wp P o a w K Q else E := by
  have hw : Region.wanted o (yielded ops a.tmps) = true := by simp [Region.wanted, hgd]
  rw [if_pos hw]
  have hrun := run_append_owned_none (P := P) (w := w) base t o.type e i size ht hi v n xs hown
  unfold Oper.wp execOp
  simp only [ho, resolve, invoke, builtin, Sem.run_bind, Sem.run_pure, Result.andThen_ok, List.map_toArray, List.map_cons, List.map_nil, hs, hx, hrun]
  exact h
theorem run_append_some (t ty : TypeId) (base : Nat) (e : TypeId) (i : TypeInfo) (z : Value) (size bytes : Nat) (ht : P.underlying t = some (.slice e)) (hi : P.info? e = some i) (hz : i.zero = some z)
    (hsize : i.size = size) (hby : i.bytes = bytes) (hzs : z.cells.size = size) (hsz : 0 < size)
    (g0 n c0 : Nat) (xs : List Value) (hown : w.ownsRow base e size (.slice (some ⟨g0, 0, none⟩) n c0) n xs)
    (ad : Addr) (m c : Nat) (news : List Value) (hl : news.length = m * size) (hnews : ∀ j u, news[j]? = some u → w.cell? (ad.add j) = some u) (h1 : ∀ u ∈ news, u.oneCell' = true)
    (h63 : n + m ≤ maxLen) (hbytes : (n + m) * bytes ≤ 140737488355328) (hbase : base ≤ w.heap.size) :
    ∃ g cap w', (Builtin.append_ #[t, t] ty #[.slice (some ⟨g0, 0, none⟩) n c0, .slice (some ad) m c]).run P w = .ok (.slice (some ⟨g, 0, none⟩) (n + m) cap) w' ∧
      w'.ownsRow base e size (.slice (some ⟨g, 0, none⟩) (n + m) cap) (n + m) (xs ++ news) ∧ w.grownBy w' (some g0) := by
  obtain ⟨v', w', hr, h2, h3, h4⟩ := run_append_own (P := P) w base t ty e i z size bytes ht hi hz hsize hby hzs hsz _ n xs hown ad m c news hl hnews h1 h63 hbytes hbase
  rcases h2.2 with ⟨rfl, _⟩ | ⟨g, cap, cur, rfl, _⟩
  · exact absurd (h4.1 rfl).1 (by simp)
  · exact ⟨g, cap, w', hr, h2, h3⟩
theorem step_append_some {ops : Array Oper} {o : Oper} {a : Act} {K : Act → World → Prop} {Q : Exit → Act → World → Prop} {E : Prop} (hgd : o.guard = none) (s x : Operand) (t : TypeId)
    (ho : o.op = .call { callee := .builtin .append, args := #[s, x], argTypes := #[t, t] })
    (base : Nat) (e : TypeId) (i : TypeInfo) (z : Value) (size bytes : Nat) (ht : P.underlying t = some (.slice e)) (hi : P.info? e = some i) (hz : i.zero = some z)
    (hsize : i.size = size) (hby : i.bytes = bytes) (hzs : z.cells.size = size) (hsz : 0 < size)
    (g0 n c0 : Nat) (xs : List Value) (hs : a.eval s = .slice (some ⟨g0, 0, none⟩) n c0) (hown : w.ownsRow base e size (.slice (some ⟨g0, 0, none⟩) n c0) n xs)
    (ad : Addr) (m c : Nat) (news : List Value) (hx : a.eval x = .slice (some ad) m c) (hl : news.length = m * size) (hnews : ∀ j u, news[j]? = some u → w.cell? (ad.add j) = some u) (h1 : ∀ u ∈ news, u.oneCell' = true)
    (h63 : n + m ≤ maxLen) (hbytes : (n + m) * bytes ≤ 140737488355328) (hbase : base ≤ w.heap.size)
    (h : ∀ g cap w', w'.ownsRow base e size (.slice (some ⟨g, 0, none⟩) (n + m) cap) (n + m) (xs ++ news) → w.grownBy w' (some g0) → K (a.put o.dst (.slice (some ⟨g, 0, none⟩) (n + m) cap)) w') :
    if Region.wanted o (yielded ops a.tmps) = true then Oper.wp P o a w K Q else E := by
  have hw : Region.wanted o (yielded ops a.tmps) = true := by simp [Region.wanted, hgd]
  rw [if_pos hw]
  obtain ⟨g, cap, w', hrun, h2, h3⟩ := run_append_some (P := P) w t o.type base e i z size bytes ht hi hz hsize hby hzs hsz g0 n c0 xs hown ad m c news hl hnews h1 h63 hbytes hbase
  unfold Oper.wp execOp
  simp only [ho, resolve, invoke, builtin, Sem.run_bind, Sem.run_pure, Result.andThen_ok, List.map_toArray, List.map_cons, List.map_nil, hs, hx, hrun]
  exact h g cap w' h2 h3
end Go.Proofs.YtajholbcpmjhiaaGreatDoor
/- The document's list (muntinref07): Mark; Jump whatever it is given. -/
namespace Go.Proofs.YtajholbcpmjhiaaGreatDoor
open Go.RowKit Go.Maps
def markM (M : List (List UInt8 × Int)) (nm : ByteArray) (n : Int) : List (List UInt8 × Int) := if (look M nm.data.toList).isSome = true then M else M ++ [(nm.data.toList, n)]
def markE (M : List (List UInt8 × Int)) (nm : ByteArray) : Int := if (look M nm.data.toList).isSome = true then 9 else 0
end Go.Proofs.YtajholbcpmjhiaaGreatDoor
/- Acts on a list: what they leave; the program's acts as one step each. -/
namespace Go.Proofs.YtajholbcpmjhiaaGreatDoor
open Go.RowKit Go.Maps
def StepTo (w : World) (p : Nat) (sv : Value) (m : Nat) (K : Nat → Prop) (L' : List It) (M' : List (List UInt8 × Int)) (w' : World) : Prop :=
  ∃ v' K', AsmAt w' p v' m K' L' M' ∧ Only (Own p sv m) w w' ∧ (∀ k, k < w.heap.size → Own p v' m k → Own p sv m k) ∧ (∀ k, k < w.heap.size → K' k → K k)
theorem StepTo.same {w w' : World} {p m : Nat} {sv : Value} {K : Nat → Prop} {L : List It} {M : List (List UInt8 × Int)} (h : AsmAt w p sv m K L M) (hb : Below w.heap.size w w') : StepTo w p sv m K L M w' :=
  ⟨sv, K, h.keep (Only.of_below (S := fun _ => False) hb) (fun _ _ h => h) (fun _ _ h => h), Only.of_below hb, fun _ _ h => h, fun _ _ h => h⟩
def putE (l : List Ix) : Int := if ∀ x ∈ l, mayP x then 0 else 2
def putL (L : List It) (l : List Ix) : List It := if ∀ x ∈ l, mayP x then L ++ l.map .put else L
def jumpE (c : Int) : Int := if c ≤ 6 then 0 else 2
def jumpL (L : List It) (op c : Int) (nm : ByteArray) : List It := if c ≤ 6 then L ++ [.far ⟨op, c, 0, 0, true, 0⟩ nm] else L
theorem put_step {w w' : World} {p m : Nat} {sv : Value} {K : Nat → Prop} {L : List It} {M : List (List UInt8 × Int)} {l : List Ix} {e : Ending} (h : AsmAt w p sv m K L M) (hp : PutOk w p sv m K L M l e w') : e = .returned (.int .i64 (putE l)) ∧ StepTo w p sv m K (putL L l) M w' := by
  unfold PutOk at hp
  unfold putE putL
  by_cases hm : ∀ x ∈ l, mayP x
  · rw [if_pos hm] at hp ⊢
    rw [if_pos hm]
    exact hp
  · rw [if_neg hm] at hp ⊢
    rw [if_neg hm]
    exact ⟨hp.1, StepTo.same h hp.2⟩
theorem far_step {w w' : World} {p m : Nat} {sv : Value} {K : Nat → Prop} {L : List It} {M : List (List UInt8 × Int)} {op c : Int} {nm : ByteArray} {e : Ending} (h : AsmAt w p sv m K L M) (hm : mayP ⟨op, c, 0, 0, true, 0⟩ ↔ c ≤ 6) (hp : FarOk w p sv m K L M ⟨op, c, 0, 0, true, 0⟩ nm e w') :
    e = .returned (.int .i64 (jumpE c)) ∧ StepTo w p sv m K (jumpL L op c nm) M w' := by
  unfold FarOk at hp
  unfold jumpE jumpL
  by_cases hc : c ≤ 6
  · rw [if_pos (hm.2 hc)] at hp
    rw [if_pos hc, if_pos hc]
    exact hp
  · rw [if_neg (fun h => hc (hm.1 h))] at hp
    rw [if_neg hc, if_neg hc]
    exact ⟨hp.1, StepTo.same h hp.2⟩
theorem amark_step (w : World) (p m : Nat) (sv : Value) (K : Nat → Prop) (L : List It) (M : List (List UInt8 × Int)) (h : AsmAt w p sv m K L M) (nm : ByteArray) (hs : nm.size ≤ maxLen) (hM : M.length < maxLen) (hL : L.length < 4294967296) :
    Calls Tryz.prog 117 #[.pointer (some ⟨p, 0, none⟩), .string nm] w fun e w' => e = .returned (.int .i64 (markE M nm)) ∧ StepTo w p sv m K L (markM M nm L.length) w' := by
  unfold markE markM
  cases hl : look M nm.data.toList with
  | none =>
    refine (amark_new w p m sv K L M h nm hs hM (by omega) hl).mono ?_
    rintro e w' ⟨rfl, h1, h2⟩
    exact ⟨rfl, sv, K, h1, h2.mono (fun k _ hk => .inr (.inr hk)), fun _ _ h => h, fun _ _ h => h⟩
  | some n =>
    refine (amark_twice w p m sv K L M h nm hs n hl).mono ?_
    rintro e w' ⟨rfl, rfl⟩
    exact ⟨rfl, StepTo.same h (Below.refl _ _)⟩
end Go.Proofs.YtajholbcpmjhiaaGreatDoor
/- The walk of muntinlaw07.head: lists whose words the document fixes; three lists side by side. -/
namespace Go.Proofs.YtajholbcpmjhiaaGreatDoor
open Go.RowKit Go.Maps
structure Lst (w0 : Nat) (w : World) (p : Nat) (S : Nat → Prop) (L : List It) (M : List (List UInt8 × Int)) : Prop where
  ex : ∃ sv m K, AsmAt w p sv m K L M ∧ (∀ k, Own p sv m k → S k) ∧ (∀ k, K k → S k)
  lo : ∀ k, S k → w0 ≤ k ∧ k < w.heap.size
theorem AsmAt.ownlt {w : World} {p m : Nat} {sv : Value} {K : Nat → Prop} {L : List It} {M : List (List UInt8 × Int)} (h : AsmAt w p sv m K L M) : ∀ k, Own p sv m k → k < w.heap.size := by
  have hbl := h.blocks
  rintro k (rfl | h | rfl)
  · exact hbl.1
  · exact hbl.2.2 k h
  · exact hbl.2.1
theorem Lst.keep {w0 : Nat} {w w2 : World} {p : Nat} {S T : Nat → Prop} {L : List It} {M : List (List UInt8 × Int)} (h : Lst w0 w p T L M) (o : Only S w w2) (hd : ∀ k, T k → ¬ S k) : Lst w0 w2 p T L M := by
  obtain ⟨⟨sv, m, K, hA, hO, hK⟩, hlo⟩ := h
  exact ⟨⟨sv, m, K, hA.keep o (fun k hk => hd k (hO k hk)) (fun k hk => hd k (hK k hk)), hO, hK⟩, fun k hk => ⟨(hlo k hk).1, Nat.lt_of_lt_of_le (hlo k hk).2 o.size⟩⟩
theorem Lst.keepb {w0 : Nat} {w w2 : World} {p : Nat} {T : Nat → Prop} {L : List It} {M : List (List UInt8 × Int)} (h : Lst w0 w p T L M) (hb : Below w.heap.size w w2) : Lst w0 w2 p T L M := h.keep (Only.of_below (S := fun _ => False) hb) (fun _ _ h => h)
theorem Lst.to {w0 : Nat} {w w2 : World} {p : Nat} {S : Nat → Prop} {L L' : List It} {M M' : List (List UInt8 × Int)} {sv : Value} {m : Nat} {K : Nat → Prop} (h : Lst w0 w p S L M) (hw : w0 ≤ w.heap.size) (hO : ∀ k, Own p sv m k → S k) (hK : ∀ k, K k → S k) (hst : StepTo w p sv m K L' M' w2) :
    ∃ S', Lst w0 w2 p S' L' M' ∧ Only S w w2 ∧ (∀ k, S' k → S k ∨ w.heap.size ≤ k) := by
  obtain ⟨v', K', g1, g2, g3, g4⟩ := hst
  refine ⟨fun k => (Own p v' m k ∨ K' k) ∧ k < w2.heap.size, ⟨⟨v', m, _, g1.trim, fun k hk => ⟨.inl hk, g1.ownlt k hk⟩, fun k hk => ⟨.inr hk.1, hk.2⟩⟩, ?_⟩, g2.mono (fun k _ hk => hO k hk), ?_⟩
  · intro k hk
    refine ⟨?_, hk.2⟩
    rcases Nat.lt_or_ge k w.heap.size with hl | hl
    · rcases hk.1 with h1 | h1
      · exact (h.lo k (hO k (g3 k hl h1))).1
      · exact (h.lo k (hK k (g4 k hl h1))).1
    · omega
  · intro k hk
    rcases Nat.lt_or_ge k w.heap.size with hl | hl
    · rcases hk.1 with h1 | h1
      · exact .inl (hO k (g3 k hl h1))
      · exact .inl (hK k (g4 k hl h1))
    · exact .inr hl
theorem new_lst (w0 w : World) (hb : Below w0.heap.size w0 w) : Calls Tryz.prog 28 #[] w fun e w' => ∃ p S, e = .returned (.pointer (some ⟨p, 0, none⟩)) ∧ Lst w0.heap.size w' p S [] [] ∧ (∀ k, S k → w.heap.size ≤ k) ∧ Below w.heap.size w w' := by
  refine (anew_any w).mono ?_
  rintro e w' ⟨p, m, rfl, hp, hm, hA, hB⟩
  have h1 := hb.size
  have h2 := hB.size
  refine ⟨p, fun k => Own p (.slice none 0 0) m k, rfl, ⟨⟨_, m, _, hA, fun k h => h, fun k h => h.elim⟩, fun k hk => ⟨?_, hA.ownlt k hk⟩⟩, ?_, hB⟩
  · rcases hk with rfl | h | rfl
    · omega
    · simp [Value.ownBlock] at h
    · omega
  · rintro k (rfl | h | rfl)
    · exact hp
    · simp [Value.ownBlock] at h
    · exact hm
structure TabLo (w0 : Nat) (w : World) : Prop where
  tab : Tab w
  lo : 0 < w0
theorem TabLo.start {w0 w : World} (h : Tab w0) (hb : Below w0.heap.size w0 w) : TabLo w0.heap.size w := ⟨h.keep hb, World.block_lt_of_cell? _ _ (h 0 (by omega))⟩
theorem TabLo.keepO {w0 : Nat} {S : Nat → Prop} {w w2 : World} (h : TabLo w0 w) (o : Only S w w2) (hs : ∀ k, S k → w0 ≤ k) : TabLo w0 w2 :=
  ⟨fun i hi => (o.cell (p := ⟨0, i, none⟩) (World.block_lt_of_cell? _ _ (h.tab i hi)) (fun hk => by have h1 : w0 ≤ 0 := hs _ hk; have := h.lo; omega)).trans (h.tab i hi), h.lo⟩
end Go.Proofs.YtajholbcpmjhiaaGreatDoor
/- A list of instructions under way: each of its methods in one form. No new function of the program is walked here. -/
namespace Go.Proofs.YtajholbcpmjhiaaGreatDoor
open Go.RowKit
theorem InsIn.lit {l : List Ix} (hb : allI l) (hl : l.length ≤ 100) (w : World) : InsIn (w.alloc (.cells (l.flatMap Ix.cells).toArray 41)) (.slice (some ⟨w.heap.size, 0, none⟩) l.length l.length) l :=
  InsIn.of_row (fun x hx => (hb x hx).1) (by unfold maxLen; omega) fun j u hu => by
    simp only [World.cell?, (MapKept.heap_alloc w _).1]
    simpa using hu
structure BsAt (W w : World) (pa : Nat) (S : Nat → Prop) (s : Bs) : Prop where
  lst : Lst W.heap.size w pa S s.L s.M
  tab : TabLo W.heap.size w
  bel : Below W.heap.size W w
def BsGo (W w : World) (pa : Nat) (S : Nat → Prop) (s : Bs) (w' : World) : Prop := ∃ S', BsAt W w' pa S' s ∧ Only S w w' ∧ ∀ k, S' k → S k ∨ w.heap.size ≤ k
section
variable {W w : World} {pa : Nat} {S : Nat → Prop} {s : Bs}
theorem BsAt.keepb (h : BsAt W w pa S s) {w' : World} (hb : Below w.heap.size w w') : BsAt W w' pa S s :=
  ⟨h.lst.keepb hb, h.tab.keepO (Only.of_below (S := fun _ => False) hb) (fun _ hk => hk.elim), h.bel.trans (hb.mono h.bel.size)⟩
theorem BsAt.step (h : BsAt W w pa S s) {s' : Bs} {w' : World} (hg : ∃ S', Lst W.heap.size w' pa S' s'.L s'.M ∧ Only S w w' ∧ ∀ k, S' k → S k ∨ w.heap.size ≤ k) : BsGo W w pa S s' w' := by
  obtain ⟨S', l', o', r'⟩ := hg
  have hb : Below W.heap.size W w' := h.bel.trans (o'.below h.bel.size (fun k hk hS => by have := (h.lst.lo k hS).1; omega))
  exact ⟨S', ⟨l', h.tab.keepO o' (fun k hk => (h.lst.lo k hk).1), hb⟩, o', r'⟩
theorem BsGo.behind {w1 w4 : World} {s' : Bs} (hb : Below w.heap.size w w1) (hg : BsGo W w1 pa S s' w4) : BsGo W w pa S s' w4 := by
  obtain ⟨S', h', o', r'⟩ := hg
  exact ⟨S', h', (Only.of_below (S := S) hb).trans o', fun k hk => (r' k hk).imp id (fun h => Nat.le_trans hb.size h)⟩
theorem BsGo.cell {w' : World} {s' : Bs} (hg : BsGo W w pa S s' w') {k j : Nat} {v : Value} (hc : w.cell? ⟨k, j, none⟩ = some v) (hk : ¬ S k) : w'.cell? ⟨k, j, none⟩ = some v := by
  obtain ⟨S', h', o', r'⟩ := hg
  exact (o'.cell (p := ⟨k, j, none⟩) (World.block_lt_of_cell? _ _ hc) hk).trans hc
theorem bs_put (h : BsAt W w pa S s) {v : Value} {l : List Ix} (hl : InsIn w v l) (hm : ∀ x ∈ l, mayP x) (hL : s.L.length + l.length < 4294967296) :
    Calls Tryz.prog 29 #[.pointer (some ⟨pa, 0, none⟩), v] w fun e w' => e = .returned (.int .i64 0) ∧ BsGo W w pa S (s.put l) w' := by
  obtain ⟨sv, m, K, hA, hO, hK⟩ := h.lst.ex
  refine (aput_any w h.tab.tab pa m sv K s.L s.M hA v l hl hL).mono fun e w' hh => ?_
  obtain ⟨he, hst⟩ := put_step hA hh
  rw [putE, if_pos hm] at he
  rw [putL, if_pos hm] at hst
  exact ⟨he, h.step (s' := s.put l) (h.lst.to h.bel.size hO hK hst)⟩
theorem bs_jump (h : BsAt W w pa S s) {c : Int} (hc0 : 0 ≤ c) (hc1 : c ≤ 6) {nm : List UInt8} (hs : nm.length ≤ 100) (hL : s.L.length < 4294967296) :
    Calls Tryz.prog 116 #[.pointer (some ⟨pa, 0, none⟩), .int .u8 c, .string ⟨nm.toArray⟩] w fun e w' => e = .returned (.int .i64 0) ∧ BsGo W w pa S (s.jump c nm) w' := by
  obtain ⟨sv, m, K, hA, hO, hK⟩ := h.lst.ex
  refine (ajump_any w h.tab.tab pa m sv K s.L s.M hA c hc0 (by omega) ⟨nm.toArray⟩ (by simp [ByteArray.size, maxLen]; omega) hL).mono fun e w' hh => ?_
  obtain ⟨he, hst⟩ := far_step hA (jump_may hc0) hh
  rw [jumpE, if_pos hc1] at he
  rw [jumpL, if_pos hc1] at hst
  exact ⟨he, h.step (s' := s.jump c nm) (h.lst.to h.bel.size hO hK hst)⟩
theorem bs_mark (h : BsAt W w pa S s) {nm : List UInt8} (hs : nm.length ≤ 100) (hn : look s.M nm = none) (hM : s.M.length < 4294967296) (hL : s.L.length < 4294967296) :
    Calls Tryz.prog 117 #[.pointer (some ⟨pa, 0, none⟩), .string ⟨nm.toArray⟩] w fun e w' => e = .returned (.int .i64 0) ∧ BsGo W w pa S (s.mark nm) w' := by
  obtain ⟨sv, m, K, hA, hO, hK⟩ := h.lst.ex
  refine (amark_step w pa m sv K s.L s.M hA ⟨nm.toArray⟩ (by simp [ByteArray.size, maxLen]; omega) (by unfold maxLen; omega) hL).mono fun e w' hh => ?_
  obtain ⟨he, hst⟩ := hh
  have hn' : ¬ (look s.M (⟨nm.toArray⟩ : ByteArray).data.toList).isSome = true := by simp [hn]
  rw [markE, if_neg hn'] at he
  rw [markM, if_neg hn'] at hst
  exact ⟨he, h.step (s' := s.mark nm) (h.lst.to h.bel.size hO hK hst)⟩
theorem bs_lit (h : BsAt W w pa S s) {l : List Ix} (hm : allI l) (hl : l.length ≤ 100) (hL : s.L.length + l.length < 4294967296) {w1 : World} (hb : Below w.heap.size w w1) :
    Calls Tryz.prog 29 #[.pointer (some ⟨pa, 0, none⟩), .slice (some ⟨w1.heap.size, 0, none⟩) l.length l.length] (w1.alloc (.cells (l.flatMap Ix.cells).toArray 41)) fun e w' => e = .returned (.int .i64 0) ∧ BsGo W w pa S (s.put l) w' := by
  have hb2 : Below w.heap.size w (w1.alloc (.cells (l.flatMap Ix.cells).toArray 41)) := hb.alloc hb.size _
  refine (bs_put (h.keepb hb2) (InsIn.lit hm hl w1) (fun x hx => (hm x hx).2) hL).mono ?_
  rintro e w' ⟨he, hg⟩
  exact ⟨he, hg.behind hb2⟩
end
end Go.Proofs.YtajholbcpmjhiaaGreatDoor
/- Walks of the package wind: its small functions. -/
namespace Go.Proofs.YtajholbcpmjhiaaGreatDoor
open Go.RowKit
section
variable {W w : World} {pa : Nat} {S : Nat → Prop} {s : Bs}
theorem bs_copy (h : BsAt W w pa S s) (hL : s.L.length < 4294967296) :
    Calls Tryz.prog 81 #[.pointer (some ⟨pa, 0, none⟩)] w fun e w' => (∃ q, e = .returned (.pointer (some ⟨q, 0, none⟩))) ∧ Below w.heap.size w w' := by
  obtain ⟨sv, m, K, hA, hO, hK⟩ := h.lst.ex
  refine (acopy_any w pa m sv K s.L s.M hA hL).mono ?_
  rintro e w' ⟨p, v, m', rfl, -, -, hb⟩
  exact ⟨⟨p, rfl⟩, hb⟩
theorem okE_yes {nw : Nat} (h2 : 2 ≤ nw) (h32 : nw ≤ 32) : okE 0 nw = 0 := by
  have : ∀ n : Nat, n < 33 → 2 ≤ n → okE 0 n = 0 := by decide
  exact this nw (by omega) h2
end
end Go.Proofs.YtajholbcpmjhiaaGreatDoor
/- Ranges over functions, met by hand: the statement, and one round. No function of the program is walked here. -/
namespace Go.Proofs.YtajholbcpmjhiaaGreatDoor
open Go.RowKit Go.Shelf
def RecOf (rec : LoopState → Option Code → Loop) (fn : FuncId) (tmps : Array Value) (ps : Array Tmp) (assign body : Code) (D : Nat) : Prop :=
  ∀ st pe, rec st pe = { state := st, pending := pe, fn := fn, tmps := tmps, params := ps, assign := assign, body := body, defers := D }
theorem range_outer {F : Fence} {n : Nat} {P : Program} {g : Operand} {ps : Array Tmp} {assign body : Code} {Q : Exit → Act → World → Prop} {a : Act} {w : World} (hro : F.round = none) (h1 : 1 ≤ n) {gf : Nat} {lb : Array Value}
    (hg : a.eval g = .func (.func gf) #[] lb) (hF : F.fn gf) (eg : ∀ args w, (callFunc gf args).run P w = .ok (.enter gf args) w)
    (h : ∀ fn rec, F.fn fn → RecOf rec fn a.tmps ps assign body w.heap.size →
      CallsIn F (n - 1) P gf (#[.func (.yield (w.heap.size + 1)) #[] #[]] ++ lb) ((w.alloc (.deferred (some []))).alloc (.loop (rec .ready none))) (rangePost F n P (w.heap.size + 1) Q { a with defers := { target := .collected w.heap.size, args := #[] } :: a.defers })) :
    (Code.rangeFunc g ps assign body).wpIn F n P Q a w := by
  refine wpIn_rangeFunc fun fn hfn => ?_
  rw [hro]
  have h2 := h fn (fun st pe => { state := st, pending := pe, fn := fn, tmps := a.tmps, params := ps, assign := assign, body := body, defers := w.heap.size }) hfn (fun _ _ => rfl)
  obtain ⟨W1, hW1⟩ : ∃ W1, ((w.alloc (.deferred (some []))).alloc (.loop { state := .ready, pending := none, fn := fn, tmps := a.tmps, params := ps, assign := assign, body := body, defers := w.heap.size })) = W1 := ⟨_, rfl⟩
  refine ⟨w.heap.size + 1, [{ target := .collected w.heap.size, args := #[] }], W1, { target := .fn (.func gf) lb, args := #[.func (.yield (w.heap.size + 1)) #[] #[]] }, W1, gf, #[.func (.yield (w.heap.size + 1)) #[] #[]] ++ lb, W1, ?_, ?_, fun f' hf' => ?_, ?_, fun _ => h1, ?_⟩
  · rw [← hW1]; exact run_enterLoop_outer _ _ _ _ _
  · simp only [resolve, hg]
    simp [go_sem]
  · simp [Target.leads] at hf'
    subst hf'
    exact hF
  · simp [invoke, go_sem, eg]
  · rw [← hW1]; exact h2
def roundEnd (rec : LoopState → Option Code → Loop) (l : Nat) (R : Ending → World → Prop) : Exit → Act → World → Prop
  | .normal, _, w => w.heap[l]? = some (.loop (rec .busy none)) ∧ R (.returned (.bool true)) (w.putObj l (.loop (rec .ready none)))
  | .ret, _, w => w.heap[l]? = some (.loop (rec .busy none)) ∧ R (.returned (.bool false)) (w.putObj l (.loop (rec .done (some .ret))))
  | .exit id, _, w => w.heap[l]? = some (.loop (rec .busy none)) ∧ R (.returned (.bool false)) (w.putObj l (.loop (rec .done (some (.exit id)))))
  | .goto t, _, w => w.heap[l]? = some (.loop (rec .busy none)) ∧ R (.returned (.bool false)) (w.putObj l (.loop (rec .done (some (.goto t)))))
  | .panic _, _, _ => False
  | .outgrown, _, _ => False
theorem one_round {F : Fence} {n : Nat} {P : Program} {l D : Nat} {rec : LoopState → Option Code → Loop} {fn : FuncId} {tmps args : Array Value} {ps : Array Tmp} {assign body : Code} {W : World} {R : Ending → World → Prop}
    (hfn : F.fn fn) (hrec : RecOf rec fn tmps ps assign body D) (hl : W.heap[l]? = some (.loop (rec .ready none))) (hs : args.size = ps.size)
    (h : assign.wpIn (F.inRound l) n P (Exit.then (fun a₁ w₁ => w₁.heap[l]? = some (.loop (rec .ready none)) ∧ body.wpIn (F.inRound l) n P (roundEnd rec l R) a₁ (w₁.putObj l (.loop (rec .busy none)))) (fun _ _ _ => False))
      { tmps := (ps.zip args).foldl (fun t (p, v) => t.setIfInBounds p v) tmps, defers := [] } W) : YieldAt F n P l args W R := by
  have hy := run_yield (P := P) (args := args) hl (by rw [hrec]; exact hs)
  rw [hrec] at hy
  refine ⟨fn, _, assign, body, hy, roundIn_of_wpIn hfn (wpIn_mono h ?_)⟩
  rintro e a1 w1 hp
  cases e with
  | normal =>
    obtain ⟨hl1, hb⟩ := hp
    have h2 := run_beginRound (P := P) hl1 (by rw [hrec])
    have e1 : ({ rec .ready none with state := .busy } : Loop) = rec .busy none := by rw [hrec, hrec]
    rw [e1] at h2
    refine ⟨_, h2, wpIn_mono hb ?_⟩
    have fin : ∀ (jump : Option Code) (W3 : World), W3.heap[l]? = some (.loop (rec .busy none)) →
        (Instr.endRound l jump).run P W3 = .ok (.bool jump.isNone) (W3.putObj l (.loop (rec (if jump.isNone then .ready else .done) jump))) := fun jump W3 h3 => by
      have h4 := run_endRound (P := P) jump h3
      rw [hrec] at h4 ⊢
      exact h4
    rintro e a3 W3 hq
    cases e with
    | normal => exact ⟨_, _, fin none W3 hq.1, hq.2⟩
    | ret => exact ⟨_, _, fin (some .ret) W3 hq.1, hq.2⟩
    | exit id => exact ⟨_, _, fin (some (.exit id)) W3 hq.1, hq.2⟩
    | goto t => exact ⟨_, _, fin (some (.goto t)) W3 hq.1, hq.2⟩
    | panic c => exact hq.elim
    | outgrown => exact hq.elim
  | ret => exact hp.elim
  | exit id => exact hp.elim
  | goto t => exact hp.elim
  | panic c => exact hp.elim
  | outgrown => exact hp.elim
theorem range_done {F : Fence} {n : Nat} {P : Program} {l D : Nat} {rec : LoopState → Option Code → Loop} {fn : FuncId} {tmps : Array Value} {ps : Array Tmp} {assign body : Code} {Q : Exit → Act → World → Prop} {a : Act} {v : Value} {W : World}
    (hrec : RecOf rec fn tmps ps assign body D) (hl : W.heap[l]? = some (.loop (rec .ready none))) (h : Q .normal a (W.putObj l (.loop (rec .exhausted none)))) : rangePost F n P l Q a (.returned v) W := by
  have h2 := run_endLoop (P := P) hl (by rw [hrec]; simp)
  rw [hrec] at h2
  refine ⟨none, _, h2, ?_⟩
  rw [hrec] at h
  exact h
end Go.Proofs.YtajholbcpmjhiaaGreatDoor
