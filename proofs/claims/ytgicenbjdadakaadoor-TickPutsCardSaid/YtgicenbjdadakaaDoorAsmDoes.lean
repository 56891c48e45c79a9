/- The walk of muntinlaw07.does: an act on a list, and on the document's. -/
import Derived.Test.YtgicenbjdadakaaDoorAsmAct
namespace Go.Proofs.YtgicenbjdadakaaDoor
open Go.RowKit Go.Maps
set_option linter.unusedVariables false
set_option linter.unusedSimpArgs false
/-- An act in a box. -/
structure ActBox (w : World) (b : Nat) (what : Int) (l : Value) (nm : ByteArray) (cond wd : Int) : Prop where
  c0 : w.cell? ⟨b, 0, none⟩ = some (.int .u8 what)
  c1 : w.cell? ⟨b, 1, none⟩ = some l
  c2 : w.cell? ⟨b, 2, none⟩ = some (.string nm)
  c3 : w.cell? ⟨b, 3, none⟩ = some (.int .u8 cond)
  c4 : w.cell? ⟨b, 4, none⟩ = some (.int .u32 wd)
theorem ActBox.new (w : World) (what : Int) (l : Value) (nm : ByteArray) (cond wd : Int) (t : TypeId) : ActBox (w.alloc (.cells #[.int .u8 what, l, .string nm, .int .u8 cond, .int .u32 wd] t)) w.heap.size what l nm cond wd := by
  have h := heap_alloc_new w (.cells #[.int .u8 what, l, .string nm, .int .u8 cond, .int .u32 wd] t)
  exact ⟨by simp only [World.cell?, h]; rfl, by simp only [World.cell?, h]; rfl, by simp only [World.cell?, h]; rfl, by simp only [World.cell?, h]; rfl, by simp only [World.cell?, h]; rfl⟩
theorem ActBox.keep {S : Nat → Prop} {w w' : World} {b : Nat} {what : Int} {l : Value} {nm : ByteArray} {cond wd : Int} (h : ActBox w b what l nm cond wd) (o : Only S w w') (hs : ¬ S b) : ActBox w' b what l nm cond wd := by
  have hl : b < w.heap.size := World.block_lt_of_cell? _ _ h.c0
  exact ⟨(o.cell (p := ⟨b, 0, none⟩) hl hs).trans h.c0, (o.cell (p := ⟨b, 1, none⟩) hl hs).trans h.c1, (o.cell (p := ⟨b, 2, none⟩) hl hs).trans h.c2, (o.cell (p := ⟨b, 3, none⟩) hl hs).trans h.c3, (o.cell (p := ⟨b, 4, none⟩) hl hs).trans h.c4⟩
theorem Only.frozen {S : Nat → Prop} {a b : World} (h : Only S a b) {p : Addr} (hp : p.block < a.heap.size) (hs : ¬ S p.block) : b.frozen? p = a.frozen? p := World.frozen?_of_block (h.block p.block hp hs)
theorem Box2.keepO {S : Nat → Prop} {w w' : World} {b : Nat} {lv mv : Value} (h : Box2 w b lv mv) (o : Only S w w') (hs : ¬ S b) : Box2 w' b lv mv :=
  ⟨(o.cell (p := ⟨b, 0, none⟩) h.lt hs).trans h.c0, (o.cell (p := ⟨b, 1, none⟩) h.lt hs).trans h.c1, (o.frozen (p := ⟨b, 0, none⟩) h.lt hs).trans h.f0, (o.frozen (p := ⟨b, 1, none⟩) h.lt hs).trans h.f1⟩
theorem Box2.size {w : World} {b : Nat} (u v : Value) : ((w.setCell ⟨b, 0, none⟩ u).setCell ⟨b, 1, none⟩ v).heap.size = w.heap.size := by simp [World.setCell]
/-- The boxes of does. -/
structure Boxes (w W : World) (lv mv : Value) (what : Int) (l : Value) (nm : ByteArray) (cond wd : Int) : Prop where
  q : Box2 W w.heap.size lv mv
  x : ActBox W (w.heap.size + 1) what l nm cond wd
  r : Box2 W (w.heap.size + 2) (.slice none 0 0) (.slice none 0 0)
  p : Box2 W (w.heap.size + 3) (.slice none 0 0) (.slice none 0 0)
  size : w.heap.size + 4 ≤ W.heap.size
theorem Boxes.keep {S : Nat → Prop} {w W W' : World} {lv mv : Value} {what : Int} {l : Value} {nm : ByteArray} {cond wd : Int} (h : Boxes w W lv mv what l nm cond wd) (o : Only S W W') (hs : ∀ k, S k → k < w.heap.size ∨ w.heap.size + 4 ≤ k) : Boxes w W' lv mv what l nm cond wd :=
  ⟨h.q.keepO o (fun hk => by have := hs _ hk; omega), h.x.keep o (fun hk => by have := hs _ hk; omega), h.r.keepO o (fun hk => by have := hs _ hk; omega), h.p.keepO o (fun hk => by have := hs _ hk; omega), Nat.le_trans h.size o.size⟩
theorem Boxes.new (w : World) (lv mv : Value) (what : Int) (l : Value) (nm : ByteArray) (cond wd : Int) (t t2 : TypeId) :
    Boxes w ((((w.alloc (.cells #[lv, mv] t)).alloc (.cells #[.int .u8 what, l, .string nm, .int .u8 cond, .int .u32 wd] t2)).alloc (.cells #[.slice none 0 0, .slice none 0 0] t)).alloc (.cells #[.slice none 0 0, .slice none 0 0] t)) lv mv what l nm cond wd := by
  have al : ∀ (W : World) (o : Obj), Only (fun _ => False) W (W.alloc o) := fun W o => (Only.refl _ W).alloc o
  have s1 : (w.alloc (.cells #[lv, mv] t)).heap.size = w.heap.size + 1 := by simp
  have s2 : ((w.alloc (.cells #[lv, mv] t)).alloc (.cells #[.int .u8 what, l, .string nm, .int .u8 cond, .int .u32 wd] t2)).heap.size = w.heap.size + 2 := by simp
  have s3 : (((w.alloc (.cells #[lv, mv] t)).alloc (.cells #[.int .u8 what, l, .string nm, .int .u8 cond, .int .u32 wd] t2)).alloc (.cells #[.slice none 0 0, .slice none 0 0] t)).heap.size = w.heap.size + 3 := by simp
  have h1 := ActBox.new (w.alloc (.cells #[lv, mv] t)) what l nm cond wd t2
  have h2 := Box2.new ((w.alloc (.cells #[lv, mv] t)).alloc (.cells #[.int .u8 what, l, .string nm, .int .u8 cond, .int .u32 wd] t2)) (.slice none 0 0) (.slice none 0 0) t
  have h3 := Box2.new (((w.alloc (.cells #[lv, mv] t)).alloc (.cells #[.int .u8 what, l, .string nm, .int .u8 cond, .int .u32 wd] t2)).alloc (.cells #[.slice none 0 0, .slice none 0 0] t)) (.slice none 0 0) (.slice none 0 0) t
  rw [s1] at h1
  rw [s2] at h2
  rw [s3] at h3
  exact ⟨(((Box2.new w lv mv t).al _).al _).al _, (h1.keep (al _ _) id).keep (al _ _) id, h2.al _, h3, by simp⟩
/-- The end of does. -/
theorem DoesOk.fin {w W1 W2 W3 : World} {p m : Nat} {sv : Value} {K : Nat → Prop} {x : Actx} {L Lq : List It} {M Mq : List (List UInt8 × Int)} {lv mv lv' mv' : Value} {b : Bool} (hb1 : Below w.heap.size w W1) (h4 : w.heap.size + 4 ≤ W1.heap.size) (hA : AsmAt w p sv m K L M) (hKb : ∀ k, K k → k < w.heap.size)
    (hst : StepTo W1 p sv m K (x.L L) (x.M L M) W2) (hd : Below W2.heap.size W2 W3) (hb : SameNames M Mq → b = true) (hi : ItemsAt W3 lv' (x.L Lq)) (hm : MarksAt W3 mv' (x.M Lq Mq))
    (hl1 : ∀ k, lv'.ownBlock = some k → lv.ownBlock = some k ∨ W2.heap.size ≤ k) (hm1 : ∀ k, mv'.ownBlock = some k → mv.ownBlock = some k ∨ W2.heap.size ≤ k)
    (hls : ∀ k, lv.ownBlock = some k → k < w.heap.size ∧ ¬ Own p sv m k) (hms : ∀ k, mv.ownBlock = some k → k < w.heap.size ∧ ¬ Own p sv m k) (u v : Value) :
    DoesOk w p sv m K x L M lv mv Lq Mq (.returned (.tuple #[.agg #[lv', mv'], .bool b])) ((((W3.setCell ⟨w.heap.size + 3, 0, none⟩ u).setCell ⟨w.heap.size + 3, 1, none⟩ v).setCell ⟨w.heap.size + 2, 0, none⟩ lv').setCell ⟨w.heap.size + 2, 1, none⟩ mv') := by
  obtain ⟨v1, K1, g1, g2, g3, g5⟩ := hst
  have hbl := hA.blocks
  have hown : ∀ k, Own p sv m k → k < w.heap.size := by
    rintro k (rfl | h | rfl)
    · exact hbl.1
    · exact hbl.2.2 k h
    · exact hbl.2.1
  have ho4 : Only (fun k => k = w.heap.size + 2 ∨ k = w.heap.size + 3) W3 ((((W3.setCell ⟨w.heap.size + 3, 0, none⟩ u).setCell ⟨w.heap.size + 3, 1, none⟩ v).setCell ⟨w.heap.size + 2, 0, none⟩ lv').setCell ⟨w.heap.size + 2, 1, none⟩ mv') :=
    ((((Only.refl _ W3).setCell (p := ⟨w.heap.size + 3, 0, none⟩) (.inr rfl) u).setCell (p := ⟨w.heap.size + 3, 1, none⟩) (.inr rfl) v).setCell (p := ⟨w.heap.size + 2, 0, none⟩) (.inl rfl) lv').setCell (p := ⟨w.heap.size + 2, 1, none⟩) (.inl rfl) mv'
  have hsz2 : W1.heap.size ≤ W2.heap.size := g2.size
  have hsz3 := hd.size
  have hnew : ∀ k, Own p v1 m k → k < w.heap.size ∧ Own p sv m k ∨ W1.heap.size ≤ k ∧ k < W2.heap.size := by
    intro k hk
    have hbl2 := g1.blocks
    have hk2 : k < W2.heap.size := by
      rcases hk with rfl | h | rfl
      · exact hbl2.1
      · exact hbl2.2.2 k h
      · exact hbl2.2.1
    rcases Nat.lt_or_ge k W1.heap.size with h | h
    · exact .inl ⟨hown k (g3 k h hk), g3 k h hk⟩
    · exact .inr ⟨h, hk2⟩
  have hK1 : ∀ k, K1 k → k < w.heap.size ∨ W1.heap.size ≤ k := by
    intro k hk
    rcases Nat.lt_or_ge k W1.heap.size with h | h
    · exact .inl (hKb k (g5 k h hk))
    · exact .inr h
  refine ⟨lv', mv', b, v1, K1, rfl, hb, ?_, ?_, ?_, ?_, ?_, ?_, ?_, ?_, ?_⟩
  · refine (g1.keep (Only.of_below (S := fun _ => False) hd) (fun _ _ h => h) (fun _ _ h => h)).keep ho4 ?_ ?_
    · intro k hk e
      have := hnew k hk; omega
    · intro k hk e
      have := hK1 k hk; omega
  · have o1 : Only (Own p sv m) w W2 := (Only.of_below hb1).fresh g2 (fun _ _ h => h)
    have o2 : Only (Own p sv m) w W3 := o1.fresh (Only.of_below (S := fun _ => False) hd) (fun _ _ h => h.elim)
    exact o2.fresh ho4 (fun k hk e => by omega)
  · intro k hk ho
    exact g3 k (by omega) ho
  · intro k hk ho
    exact g5 k (by omega) ho
  · refine hi.keepO ho4 (fun k hk e => ?_)
    rcases hl1 k hk with h | h
    · have := (hls k h).1; omega
    · omega
  · refine hm.keepO ho4 (fun k hk e => ?_)
    rcases hm1 k hk with h | h
    · have := (hms k h).1; omega
    · omega
  · intro k hk
    have hn := hnew k hk
    refine ⟨fun e => ?_, fun e => ?_⟩
    · rcases hl1 k e with h | h
      · have h2 := hls k h
        rcases hn with hn | hn
        · exact h2.2 hn.2
        · omega
      · omega
    · rcases hm1 k e with h | h
      · have h2 := hms k h
        rcases hn with hn | hn
        · exact h2.2 hn.2
        · omega
      · omega
  · intro k hk
    rcases hl1 k hk with h | h
    · exact .inl h
    · exact .inr (by omega)
  · intro k hk
    rcases hm1 k hk with h | h
    · exact .inl h
    · exact .inr (by omega)
theorem rfl_L0 (x : Actx) (hk : x.what % 5 = 0) : ∀ L M, x.L L = putL L x.l ∧ x.M L M = M := fun L M => by unfold Actx.L Actx.M; rw [hk]; exact ⟨rfl, rfl⟩
theorem rfl_L1 (x : Actx) (hk : x.what % 5 = 1) : ∀ L M, x.L L = L ∧ x.M L M = markM M x.nm L.length := fun L M => by unfold Actx.L Actx.M; rw [hk]; exact ⟨rfl, rfl⟩
theorem rfl_L2 (x : Actx) (hk : x.what % 5 = 2) : ∀ L M, x.L L = jumpL L 17 x.cond x.nm ∧ x.M L M = M := fun L M => by unfold Actx.L Actx.M; rw [hk]; exact ⟨rfl, rfl⟩
theorem rfl_L3 (x : Actx) (hk : x.what % 5 = 3) : ∀ L M, x.L L = jumpL L 18 0 x.nm ∧ x.M L M = M := fun L M => by unfold Actx.L Actx.M; rw [hk]; exact ⟨rfl, rfl⟩
theorem rfl_L4 (x : Actx) (hk : x.what % 5 = 4) : ∀ L M, x.L L = putL L (partsS x.cond x.wd) ∧ x.M L M = M := fun L M => by unfold Actx.L Actx.M; rw [hk]; exact ⟨rfl, rfl⟩
end Go.Proofs.YtgicenbjdadakaaDoor
