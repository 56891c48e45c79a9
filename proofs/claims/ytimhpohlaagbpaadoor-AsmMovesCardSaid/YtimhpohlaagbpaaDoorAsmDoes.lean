/- The walk of muntinlaw07.does: an act on a list, and on the document's. -/
import Derived.Test.YtimhpohlaagbpaaDoorAsmAct
namespace Go.Proofs.YtimhpohlaagbpaaDoor
open Go.RowKit Go.Maps
set_option linter.unusedVariables false
set_option linter.unusedSimpArgs false
/-- An act in a box. -/
structure ActBox (w : World) (b : Nat) (what : Int) (l : Value) (nm : ByteArray) (cond wd : Int) : Prop where
  c0 : w.cell? ⟨b, 0, none⟩ = some (.int .u8 what)
  c1 : w.cell? ⟨b, 1, none⟩ = some l
  c2 : w.cell? ⟨b, 2, none⟩ = some (.string nm)
  c3 : w.cell? ⟨b, 3, none⟩ = some (.int .u8 cond)
  c4 : w.cell? ⟨b, 4, none⟩ = some (.int .u32 wd)
theorem ActBox.new (w : World) (what : Int) (l : Value) (nm : ByteArray) (cond wd : Int) (t : TypeId) : ActBox (w.alloc (.cells #[.int .u8 what, l, .string nm, .int .u8 cond, .int .u32 wd] t)) w.heap.size what l nm cond wd := by
  have h := heap_alloc_new w (.cells #[.int .u8 what, l, .string nm, .int .u8 cond, .int .u32 wd] t)
  exact ⟨by simp only [World.cell?, h]; rfl, by simp only [World.cell?, h]; rfl, by simp only [World.cell?, h]; rfl, by simp only [World.cell?, h]; rfl, by simp only [World.cell?, h]; rfl⟩
theorem ActBox.keep {S : Nat → Prop} {w w' : World} {b : Nat} {what : Int} {l : Value} {nm : ByteArray} {cond wd : Int} (h : ActBox w b what l nm cond wd) (o : Only S w w') (hs : ¬ S b) : ActBox w' b what l nm cond wd := by
  have hl : b < w.heap.size := World.block_lt_of_cell? _ _ h.c0
  exact ⟨(o.cell (p := ⟨b, 0, none⟩) hl hs).trans h.c0, (o.cell (p := ⟨b, 1, none⟩) hl hs).trans h.c1, (o.cell (p := ⟨b, 2, none⟩) hl hs).trans h.c2, (o.cell (p := ⟨b, 3, none⟩) hl hs).trans h.c3, (o.cell (p := ⟨b, 4, none⟩) hl hs).trans h.c4⟩
theorem Only.frozen {S : Nat → Prop} {a b : World} (h : Only S a b) {p : Addr} (hp : p.block < a.heap.size) (hs : ¬ S p.block) : b.frozen? p = a.frozen? p := World.frozen?_of_block (h.block p.block hp hs)
theorem Box2.keepO {S : Nat → Prop} {w w' : World} {b : Nat} {lv mv : Value} (h : Box2 w b lv mv) (o : Only S w w') (hs : ¬ S b) : Box2 w' b lv mv :=
  ⟨(o.cell (p := ⟨b, 0, none⟩) h.lt hs).trans h.c0, (o.cell (p := ⟨b, 1, none⟩) h.lt hs).trans h.c1, (o.frozen (p := ⟨b, 0, none⟩) h.lt hs).trans h.f0, (o.frozen (p := ⟨b, 1, none⟩) h.lt hs).trans h.f1⟩
theorem Box2.size {w : World} {b : Nat} (u v : Value) : ((w.setCell ⟨b, 0, none⟩ u).setCell ⟨b, 1, none⟩ v).heap.size = w.heap.size := by simp [World.setCell]
/-- The boxes of does. -/
structure Boxes (w W : World) (lv mv : Value) (what : Int) (l : Value) (nm : ByteArray) (cond wd : Int) : Prop where
  q : Box2 W w.heap.size lv mv
  x : ActBox W (w.heap.size + 1) what l nm cond wd
  r : Box2 W (w.heap.size + 2) (.slice none 0 0) (.slice none 0 0)
  p : Box2 W (w.heap.size + 3) (.slice none 0 0) (.slice none 0 0)
  size : w.heap.size + 4 ≤ W.heap.size
theorem Boxes.keep {S : Nat → Prop} {w W W' : World} {lv mv : Value} {what : Int} {l : Value} {nm : ByteArray} {cond wd : Int} (h : Boxes w W lv mv what l nm cond wd) (o : Only S W W') (hs : ∀ k, S k → k < w.heap.size ∨ w.heap.size + 4 ≤ k) : Boxes w W' lv mv what l nm cond wd :=
  ⟨h.q.keepO o (fun hk => by have := hs _ hk; omega), h.x.keep o (fun hk => by have := hs _ hk; omega), h.r.keepO o (fun hk => by have := hs _ hk; omega), h.p.keepO o (fun hk => by have := hs _ hk; omega), Nat.le_trans h.size o.size⟩
theorem Boxes.new (w : World) (lv mv : Value) (what : Int) (l : Value) (nm : ByteArray) (cond wd : Int) (t t2 : TypeId) :
    Boxes w ((((w.alloc (.cells #[lv, mv] t)).alloc (.cells #[.int .u8 what, l, .string nm, .int .u8 cond, .int .u32 wd] t2)).alloc (.cells #[.slice none 0 0, .slice none 0 0] t)).alloc (.cells #[.slice none 0 0, .slice none 0 0] t)) lv mv what l nm cond wd := by
  have al : ∀ (W : World) (o : Obj), Only (fun _ => False) W (W.alloc o) := fun W o => (Only.refl _ W).alloc o
  have s1 : (w.alloc (.cells #[lv, mv] t)).heap.size = w.heap.size + 1 := by simp
  have s2 : ((w.alloc (.cells #[lv, mv] t)).alloc (.cells #[.int .u8 what, l, .string nm, .int .u8 cond, .int .u32 wd] t2)).heap.size = w.heap.size + 2 := by simp
  have s3 : (((w.alloc (.cells #[lv, mv] t)).alloc (.cells #[.int .u8 what, l, .string nm, .int .u8 cond, .int .u32 wd] t2)).alloc (.cells #[.slice none 0 0, .slice none 0 0] t)).heap.size = w.heap.size + 3 := by simp
  have h1 := ActBox.new (w.alloc (.cells #[lv, mv] t)) what l nm cond wd t2
  have h2 := Box2.new ((w.alloc (.cells #[lv, mv] t)).alloc (.cells #[.int .u8 what, l, .string nm, .int .u8 cond, .int .u32 wd] t2)) (.slice none 0 0) (.slice none 0 0) t
  have h3 := Box2.new (((w.alloc (.cells #[lv, mv] t)).alloc (.cells #[.int .u8 what, l, .string nm, .int .u8 cond, .int .u32 wd] t2)).alloc (.cells #[.slice none 0 0, .slice none 0 0] t)) (.slice none 0 0) (.slice none 0 0) t
  rw [s1] at h1
  rw [s2] at h2
  rw [s3] at h3
  exact ⟨(((Box2.new w lv mv t).al _).al _).al _, (h1.keep (al _ _) id).keep (al _ _) id, h2.al _, h3, by simp⟩
/-- The end of does. -/
theorem DoesOk.fin {w W1 W2 W3 : World} {p m : Nat} {sv : Value} {K : Nat → Prop} {x : Actx} {L Lq : List It} {M Mq : List (List UInt8 × Int)} {lv mv lv' mv' : Value} {b : Bool} (hb1 : Below w.heap.size w W1) (h4 : w.heap.size + 4 ≤ W1.heap.size) (hA : AsmAt w p sv m K L M) (hKb : ∀ k, K k → k < w.heap.size)
    (hst : StepTo W1 p sv m K (x.L L) (x.M L M) W2) (hd : Below W2.heap.size W2 W3) (hb : SameNames M Mq → b = true) (hi : ItemsAt W3 lv' (x.L Lq)) (hm : MarksAt W3 mv' (x.M Lq Mq))
    (hl1 : ∀ k, lv'.ownBlock = some k → lv.ownBlock = some k ∨ W2.heap.size ≤ k) (hm1 : ∀ k, mv'.ownBlock = some k → mv.ownBlock = some k ∨ W2.heap.size ≤ k)
    (hls : ∀ k, lv.ownBlock = some k → k < w.heap.size ∧ ¬ Own p sv m k) (hms : ∀ k, mv.ownBlock = some k → k < w.heap.size ∧ ¬ Own p sv m k) (u v : Value) :
    DoesOk w p sv m K x L M lv mv Lq Mq (.returned (.tuple #[.agg #[lv', mv'], .bool b])) ((((W3.setCell ⟨w.heap.size + 3, 0, none⟩ u).setCell ⟨w.heap.size + 3, 1, none⟩ v).setCell ⟨w.heap.size + 2, 0, none⟩ lv').setCell ⟨w.heap.size + 2, 1, none⟩ mv') := by
  obtain ⟨v1, K1, g1, g2, g3, g5⟩ := hst
  have hbl := hA.blocks
  have hown : ∀ k, Own p sv m k → k < w.heap.size := by
    rintro k (rfl | h | rfl)
    · exact hbl.1
    · exact hbl.2.2 k h
    · exact hbl.2.1
  have ho4 : Only (fun k => k = w.heap.size + 2 ∨ k = w.heap.size + 3) W3 ((((W3.setCell ⟨w.heap.size + 3, 0, none⟩ u).setCell ⟨w.heap.size + 3, 1, none⟩ v).setCell ⟨w.heap.size + 2, 0, none⟩ lv').setCell ⟨w.heap.size + 2, 1, none⟩ mv') :=
    ((((Only.refl _ W3).setCell (p := ⟨w.heap.size + 3, 0, none⟩) (.inr rfl) u).setCell (p := ⟨w.heap.size + 3, 1, none⟩) (.inr rfl) v).setCell (p := ⟨w.heap.size + 2, 0, none⟩) (.inl rfl) lv').setCell (p := ⟨w.heap.size + 2, 1, none⟩) (.inl rfl) mv'
  have hsz2 : W1.heap.size ≤ W2.heap.size := g2.size
  have hsz3 := hd.size
  have hnew : ∀ k, Own p v1 m k → k < w.heap.size ∧ Own p sv m k ∨ W1.heap.size ≤ k ∧ k < W2.heap.size := by
    intro k hk
    have hbl2 := g1.blocks
    have hk2 : k < W2.heap.size := by
      rcases hk with rfl | h | rfl
      · exact hbl2.1
      · exact hbl2.2.2 k h
      · exact hbl2.2.1
    rcases Nat.lt_or_ge k W1.heap.size with h | h
    · exact .inl ⟨hown k (g3 k h hk), g3 k h hk⟩
    · exact .inr ⟨h, hk2⟩
  have hK1 : ∀ k, K1 k → k < w.heap.size ∨ W1.heap.size ≤ k := by
    intro k hk
    rcases Nat.lt_or_ge k W1.heap.size with h | h
    · exact .inl (hKb k (g5 k h hk))
    · exact .inr h
  refine ⟨lv', mv', b, v1, K1, rfl, hb, ?_, ?_, ?_, ?_, ?_, ?_, ?_, ?_, ?_⟩
  · refine (g1.keep (Only.of_below (S := fun _ => False) hd) (fun _ _ h => h) (fun _ _ h => h)).keep ho4 ?_ ?_
    · intro k hk e
      have := hnew k hk; omega
    · intro k hk e
      have := hK1 k hk; omega
  · have o1 : Only (Own p sv m) w W2 := (Only.of_below hb1).fresh g2 (fun _ _ h => h)
    have o2 : Only (Own p sv m) w W3 := o1.fresh (Only.of_below (S := fun _ => False) hd) (fun _ _ h => h.elim)
    exact o2.fresh ho4 (fun k hk e => by omega)
  · intro k hk ho
    exact g3 k (by omega) ho
  · intro k hk ho
    exact g5 k (by omega) ho
  · refine hi.keepO ho4 (fun k hk e => ?_)
    rcases hl1 k hk with h | h
    · have := (hls k h).1; omega
    · omega
  · refine hm.keepO ho4 (fun k hk e => ?_)
    rcases hm1 k hk with h | h
    · have := (hms k h).1; omega
    · omega
  · intro k hk
    have hn := hnew k hk
    refine ⟨fun e => ?_, fun e => ?_⟩
    · rcases hl1 k e with h | h
      · have h2 := hls k h
        rcases hn with hn | hn
        · exact h2.2 hn.2
        · omega
      · omega
    · rcases hm1 k e with h | h
      · have h2 := hms k h
        rcases hn with hn | hn
        · exact h2.2 hn.2
        · omega
      · omega
  · intro k hk
    rcases hl1 k hk with h | h
    · exact .inl h
    · exact .inr (by omega)
  · intro k hk
    rcases hm1 k hk with h | h
    · exact .inl h
    · exact .inr (by omega)
theorem rfl_L0 (x : Actx) (hk : x.what % 5 = 0) : ∀ L M, x.L L = putL L x.l ∧ x.M L M = M := fun L M => by unfold Actx.L Actx.M; rw [hk]; exact ⟨rfl, rfl⟩
theorem rfl_L1 (x : Actx) (hk : x.what % 5 = 1) : ∀ L M, x.L L = L ∧ x.M L M = markM M x.nm L.length := fun L M => by unfold Actx.L Actx.M; rw [hk]; exact ⟨rfl, rfl⟩
theorem rfl_L2 (x : Actx) (hk : x.what % 5 = 2) : ∀ L M, x.L L = jumpL L 17 x.cond x.nm ∧ x.M L M = M := fun L M => by unfold Actx.L Actx.M; rw [hk]; exact ⟨rfl, rfl⟩
theorem rfl_L3 (x : Actx) (hk : x.what % 5 = 3) : ∀ L M, x.L L = jumpL L 18 0 x.nm ∧ x.M L M = M := fun L M => by unfold Actx.L Actx.M; rw [hk]; exact ⟨rfl, rfl⟩
theorem rfl_L4 (x : Actx) (hk : x.what % 5 = 4) : ∀ L M, x.L L = putL L (partsS x.cond x.wd) ∧ x.M L M = M := fun L M => by unfold Actx.L Actx.M; rw [hk]; exact ⟨rfl, rfl⟩
set_option maxRecDepth 100000 in
set_option maxHeartbeats 2000000 in
theorem does_0 (w : World) (ht : Tab w) (p m : Nat) (sv : Value) (K : Nat → Prop) (L : List It) (M : List (List UInt8 × Int)) (hA : AsmAt w p sv m K L M) (hKb : ∀ k, K k → k < w.heap.size) (lv mv : Value) (Lq : List It) (Mq : List (List UInt8 × Int)) (hq : ItemsAt w lv Lq) (hmq : MarksAt w mv Mq)
    (x : Actx) (xv : Value) (hx : x.bd) (hl : InsIn w xv x.l) (hk : x.what % 5 = 0) (hls : ∀ k, lv.ownBlock = some k → k < w.heap.size ∧ ¬ Own p sv m k) (hms : ∀ k, mv.ownBlock = some k → k < w.heap.size ∧ ¬ Own p sv m k) (hxs : 0 < x.l.length → ∀ k, xv.ownBlock = some k → ¬ Own p sv m k)
    (s1 : L.length + 1000 < 4294967296) (s2 : Lq.length + 1000 < 4294967296) (s3 : M.length < 4294967296) (s4 : Mq.length < 4294967296) :
    Calls Tryd.prog 10 #[.pointer (some ⟨p, 0, none⟩), .agg #[lv, mv], .agg #[.int .u8 x.what, xv, .string x.nm, .int .u8 x.cond, .int .u32 x.wd]] w (DoesOk w p sv m K x L M lv mv Lq Mq) := by
  obtain ⟨pl, nl, cl, rfl⟩ := hq.shape
  obtain ⟨pm, nm', cm, rfl⟩ := hmq.shape
  obtain ⟨px, nx, cx, rfl⟩ : ∃ p n c, xv = .slice p n c := by obtain ⟨_, p, c, _, _, h, _⟩ := hl; exact ⟨_, _, _, h⟩
  have hXL := rfl_L0 x hk
  obtain ⟨what, l, nm, cond, wd⟩ := x
  obtain ⟨⟨a0, a1⟩, ⟨b0, b1⟩, ⟨d0, d1⟩, hnm, hll⟩ := hx
  simp only at a0 a1 b0 b1 d0 d1 hnm hll hk hl
  have HXL := ahid hXL
  have HA := ahid hA
  have HT := ahid ht
  have HQ := ahid (And.intro hq hmq)
  have HS := ahid (And.intro hls (And.intro hms hxs))
  have HKB := ahid hKb
  have HL := ahid (And.intro hl (And.intro hnm hll))
  have hbl := hA.blocks
  have HO : Hid (∀ k, Own p sv m k → k < w.heap.size) := ahid (by
    rintro k (rfl | h | rfl)
    · exact hbl.1
    · exact hbl.2.2 k h
    · exact hbl.2.1)
  have HBX := ahid (Boxes.new w (.slice pl nl cl) (.slice pm nm' cm) what (.slice px nx cx) nm cond wd 33 38)
  have HBW := ahid (show Below w.heap.size w ((((w.alloc (.cells #[.slice pl nl cl, .slice pm nm' cm] 33)).alloc (.cells #[.int .u8 what, .slice px nx cx, .string nm, .int .u8 cond, .int .u32 wd] 38)).alloc (.cells #[.slice none 0 0, .slice none 0 0] 33)).alloc (.cells #[.slice none 0 0, .slice none 0 0] 33)) from by go_grown)
  clear hXL hA ht hq hmq hls hms hxs hKb hl hnm hll hbl
  go_enter Tryd.func10, Tryd.ntmps10
  go_wp2_with fail
  generalize (((w.alloc (.cells #[.slice pl nl cl, .slice pm nm' cm] 33)).alloc (.cells #[.int .u8 what, .slice px nx cx, .string nm, .int .u8 cond, .int .u32 wd] 38)).alloc (.cells #[.slice none 0 0, .slice none 0 0] 33)).alloc (.cells #[.slice none 0 0, .slice none 0 0] 33) = W at *
  have HA1 := ahid (HA.out.keep (Only.of_below (S := fun _ => False) HBW.out) (fun _ _ h => h) (fun _ _ h => h))
  refine (aput_any W (HT.out.keep HBW.out) p m sv K L M HA1.out _ l (HL.out.1.keepb HBW.out) (by have := HL.out.2.2; omega)).mono ?_
  intro e W2 hh
  obtain ⟨rfl, hst⟩ := put_step HA1.out hh
  clear hh
  obtain ⟨v2, K2, g1, g2, g3, g4⟩ := hst
  have HG := ahid (show StepTo W p sv m K _ _ W2 from ⟨v2, K2, g1, g2, g3, g4⟩)
  have hsz2 := g2.size
  have HBX2 := ahid (HBX.out.keep g2 (fun k hk => .inl (HO.out k hk)))
  have HQ2 := ahid (And.intro ((HQ.out.1.keep HBW.out).keepO g2 (fun k hk => (HS.out.1 k hk).2)) ((HQ.out.2.keep HBW.out).keepO g2 (fun k hk => (HS.out.2.1 k hk).2)))
  have HL2 := ahid ((HL.out.1.keepb HBW.out).keepO g2 HS.out.2.2)
  have hszW := HBX.out.size
  clear g1 g2 g3 g4
  obtain ⟨q0, q1, _, _⟩ := HBX2.out.q
  obtain ⟨x0, x1, x2, x3, x4⟩ := HBX2.out.x
  have hlen : (nl : Int) = Lq.length := by
    rcases HQ.out.1.2 with ⟨h, h0⟩ | ⟨g, cap, h, _⟩
    · cases h; omega
    · cases h; rfl
  have HD := ahid (rput_any W2 _ (.slice pm nm' cm) Lq HQ2.out.1 ⟨_, _, _, rfl⟩ _ l HL2.out (by have := HL.out.2.2; omega))
  go_wp2_with fail
  refine HD.out.mono ?_
  rintro e W3 ⟨lv', rfl, hi, hb3, hloc⟩
  rw [show (if ∀ x ∈ l, mayP x then (0 : Int) else 2) = putE l from rfl]
  obtain ⟨pl', nl', cl', rfl⟩ := hi.shape
  have HE := ahid (And.intro hi (And.intro hb3 hloc))
  have HBX3 := HBX2.out.keep (Only.of_below (S := fun _ => False) hb3) (fun k h => h.elim)
  clear q0 q1 x0 x1 x2 x3 x4 HD hi hb3 hloc
  generalize putE l = q
  obtain ⟨r0, r1, rf0, rf1⟩ := HBX3.r
  obtain ⟨p0, p1, pf0, pf1⟩ := HBX3.p
  have hS := (Box2.keepO (Box2.mk r0 r1 rf0 rf1) (Box2.only (S := fun k => k = w.heap.size + 3) (Only.refl _ W3) rfl (.slice pl' nl' cl') (.slice pm nm' cm)) (by omega)).set (.slice pl' nl' cl') (.slice pm nm' cm)
  have hfin := DoesOk.fin HBW.out hszW HA.out HKB.out (b := true) (x := ⟨what, l, nm, cond, wd⟩) (Lq := Lq) (Mq := Mq) (lv' := .slice pl' nl' cl') (mv' := .slice pm nm' cm) (by rw [(HXL.out L M).1, (HXL.out L M).2]; exact HG.out) HE.out.2.1 (fun _ => rfl) (by rw [(HXL.out Lq Mq).1]; exact HE.out.1) (by rw [(HXL.out Lq Mq).2]; exact HQ2.out.2.keep HE.out.2.1) HE.out.2.2 (fun k hk => .inl hk) HS.out.1 HS.out.2.1 (.slice pl' nl' cl') (.slice pm nm' cm)
  clear HBX3
  go_wp2_with fail
  generalize (((W3.setCell ⟨w.heap.size + 3, 0, none⟩ (.slice pl' nl' cl')).setCell ⟨w.heap.size + 3, 1, none⟩ (.slice pm nm' cm)).setCell ⟨w.heap.size + 2, 0, none⟩ (.slice pl' nl' cl')).setCell ⟨w.heap.size + 2, 1, none⟩ (.slice pm nm' cm) = W9 at *
  obtain ⟨s0, s1', _, _⟩ := hS
  refine bodyPost_ret (by simp [results, Tryd.results10, go_sem, s0, s1']; try rfl) rfl ?_
  exact hfin
set_option maxRecDepth 100000 in
set_option maxHeartbeats 2000000 in
theorem does_1 (w : World) (ht : Tab w) (p m : Nat) (sv : Value) (K : Nat → Prop) (L : List It) (M : List (List UInt8 × Int)) (hA : AsmAt w p sv m K L M) (hKb : ∀ k, K k → k < w.heap.size) (lv mv : Value) (Lq : List It) (Mq : List (List UInt8 × Int)) (hq : ItemsAt w lv Lq) (hmq : MarksAt w mv Mq)
    (x : Actx) (xv : Value) (hx : x.bd) (hl : InsIn w xv x.l) (hk : x.what % 5 = 1) (hls : ∀ k, lv.ownBlock = some k → k < w.heap.size ∧ ¬ Own p sv m k) (hms : ∀ k, mv.ownBlock = some k → k < w.heap.size ∧ ¬ Own p sv m k) (hxs : 0 < x.l.length → ∀ k, xv.ownBlock = some k → ¬ Own p sv m k)
    (s1 : L.length + 1000 < 4294967296) (s2 : Lq.length + 1000 < 4294967296) (s3 : M.length < 4294967296) (s4 : Mq.length < 4294967296) :
    Calls Tryd.prog 10 #[.pointer (some ⟨p, 0, none⟩), .agg #[lv, mv], .agg #[.int .u8 x.what, xv, .string x.nm, .int .u8 x.cond, .int .u32 x.wd]] w (DoesOk w p sv m K x L M lv mv Lq Mq) := by
  obtain ⟨pl, nl, cl, rfl⟩ := hq.shape
  obtain ⟨pm, nm', cm, rfl⟩ := hmq.shape
  obtain ⟨px, nx, cx, rfl⟩ : ∃ p n c, xv = .slice p n c := by obtain ⟨_, p, c, _, _, h, _⟩ := hl; exact ⟨_, _, _, h⟩
  have hXL := rfl_L1 x hk
  obtain ⟨what, l, nm, cond, wd⟩ := x
  obtain ⟨⟨a0, a1⟩, ⟨b0, b1⟩, ⟨d0, d1⟩, hnm, hll⟩ := hx
  simp only at a0 a1 b0 b1 d0 d1 hnm hll hk hl
  have HXL := ahid hXL
  have HA := ahid hA
  have HT := ahid ht
  have HQ := ahid (And.intro hq hmq)
  have HS := ahid (And.intro hls (And.intro hms hxs))
  have HKB := ahid hKb
  have HL := ahid (And.intro hl (And.intro hnm hll))
  have hbl := hA.blocks
  have HO : Hid (∀ k, Own p sv m k → k < w.heap.size) := ahid (by
    rintro k (rfl | h | rfl)
    · exact hbl.1
    · exact hbl.2.2 k h
    · exact hbl.2.1)
  have HBX := ahid (Boxes.new w (.slice pl nl cl) (.slice pm nm' cm) what (.slice px nx cx) nm cond wd 33 38)
  have HBW := ahid (show Below w.heap.size w ((((w.alloc (.cells #[.slice pl nl cl, .slice pm nm' cm] 33)).alloc (.cells #[.int .u8 what, .slice px nx cx, .string nm, .int .u8 cond, .int .u32 wd] 38)).alloc (.cells #[.slice none 0 0, .slice none 0 0] 33)).alloc (.cells #[.slice none 0 0, .slice none 0 0] 33)) from by go_grown)
  clear hXL hA ht hq hmq hls hms hxs hKb hl hnm hll hbl
  go_enter Tryd.func10, Tryd.ntmps10
  go_wp2_with fail
  generalize (((w.alloc (.cells #[.slice pl nl cl, .slice pm nm' cm] 33)).alloc (.cells #[.int .u8 what, .slice px nx cx, .string nm, .int .u8 cond, .int .u32 wd] 38)).alloc (.cells #[.slice none 0 0, .slice none 0 0] 33)).alloc (.cells #[.slice none 0 0, .slice none 0 0] 33) = W at *
  have HA1 := ahid (HA.out.keep (Only.of_below (S := fun _ => False) HBW.out) (fun _ _ h => h) (fun _ _ h => h))
  refine (amark_step W p m sv K L M HA1.out nm HL.out.2.1 (by unfold maxLen; omega) (by omega)).mono ?_
  rintro e W2 ⟨rfl, hst⟩
  obtain ⟨v2, K2, g1, g2, g3, g4⟩ := hst
  have HG := ahid (show StepTo W p sv m K _ _ W2 from ⟨v2, K2, g1, g2, g3, g4⟩)
  have hsz2 := g2.size
  have HBX2 := ahid (HBX.out.keep g2 (fun k hk => .inl (HO.out k hk)))
  have HQ2 := ahid (And.intro ((HQ.out.1.keep HBW.out).keepO g2 (fun k hk => (HS.out.1 k hk).2)) ((HQ.out.2.keep HBW.out).keepO g2 (fun k hk => (HS.out.2.1 k hk).2)))
  have HL2 := ahid ((HL.out.1.keepb HBW.out).keepO g2 HS.out.2.2)
  have hszW := HBX.out.size
  clear g1 g2 g3 g4
  obtain ⟨q0, q1, _, _⟩ := HBX2.out.q
  obtain ⟨x0, x1, x2, x3, x4⟩ := HBX2.out.x
  have hlen : (nl : Int) = Lq.length := by
    rcases HQ.out.1.2 with ⟨h, h0⟩ | ⟨g, cap, h, _⟩
    · cases h; omega
    · cases h; rfl
  have HD := ahid (rmark_any W2 pl nl cl _ Mq HQ2.out.2 nm s4)
  go_wp2_with fail
  refine HD.out.mono ?_
  rintro e W3 ⟨mv', rfl, hi, hb3, hloc⟩
  obtain ⟨pm', nn', cm', rfl⟩ := hi.shape
  rw [hlen] at hi
  have HE := ahid (And.intro hi (And.intro hb3 hloc))
  have HBX3 := HBX2.out.keep (Only.of_below (S := fun _ => False) hb3) (fun k h => h.elim)
  clear q0 q1 x0 x1 x2 x3 x4 HD hi hb3 hloc
  have HN := ahid (fun h : SameNames M Mq => (h.mark nm 0 0).1)
  generalize markE M nm = qa at *
  generalize markE Mq nm = qb at *
  obtain ⟨r0, r1, rf0, rf1⟩ := HBX3.r
  obtain ⟨p0, p1, pf0, pf1⟩ := HBX3.p
  have hS := (Box2.keepO (Box2.mk r0 r1 rf0 rf1) (Box2.only (S := fun k => k = w.heap.size + 3) (Only.refl _ W3) rfl (.slice pl nl cl) (.slice pm' nn' cm')) (by omega)).set (.slice pl nl cl) (.slice pm' nn' cm')
  have hfin := DoesOk.fin HBW.out hszW HA.out HKB.out (b := qa == qb) (x := ⟨what, l, nm, cond, wd⟩) (Lq := Lq) (Mq := Mq) (lv' := .slice pl nl cl) (mv' := .slice pm' nn' cm') (by rw [(HXL.out L M).1, (HXL.out L M).2]; exact HG.out) HE.out.2.1 (fun h => by rw [HN.out h]; simp) (by rw [(HXL.out Lq Mq).1]; exact HQ2.out.1.keep HE.out.2.1) (by rw [(HXL.out Lq Mq).2]; exact HE.out.1) (fun k hk => .inl hk) HE.out.2.2 HS.out.1 HS.out.2.1 (.slice pl nl cl) (.slice pm' nn' cm')
  clear HBX3
  go_wp2_with fail
  generalize (((W3.setCell ⟨w.heap.size + 3, 0, none⟩ (.slice pl nl cl)).setCell ⟨w.heap.size + 3, 1, none⟩ (.slice pm' nn' cm')).setCell ⟨w.heap.size + 2, 0, none⟩ (.slice pl nl cl)).setCell ⟨w.heap.size + 2, 1, none⟩ (.slice pm' nn' cm') = W9 at *
  obtain ⟨s0, s1', _, _⟩ := hS
  refine bodyPost_ret (by simp [results, Tryd.results10, go_sem, s0, s1']; try rfl) rfl ?_
  exact hfin
set_option maxRecDepth 100000 in
set_option maxHeartbeats 2000000 in
theorem does_2 (w : World) (ht : Tab w) (p m : Nat) (sv : Value) (K : Nat → Prop) (L : List It) (M : List (List UInt8 × Int)) (hA : AsmAt w p sv m K L M) (hKb : ∀ k, K k → k < w.heap.size) (lv mv : Value) (Lq : List It) (Mq : List (List UInt8 × Int)) (hq : ItemsAt w lv Lq) (hmq : MarksAt w mv Mq)
    (x : Actx) (xv : Value) (hx : x.bd) (hl : InsIn w xv x.l) (hk : x.what % 5 = 2) (hls : ∀ k, lv.ownBlock = some k → k < w.heap.size ∧ ¬ Own p sv m k) (hms : ∀ k, mv.ownBlock = some k → k < w.heap.size ∧ ¬ Own p sv m k) (hxs : 0 < x.l.length → ∀ k, xv.ownBlock = some k → ¬ Own p sv m k)
    (s1 : L.length + 1000 < 4294967296) (s2 : Lq.length + 1000 < 4294967296) (s3 : M.length < 4294967296) (s4 : Mq.length < 4294967296) :
    Calls Tryd.prog 10 #[.pointer (some ⟨p, 0, none⟩), .agg #[lv, mv], .agg #[.int .u8 x.what, xv, .string x.nm, .int .u8 x.cond, .int .u32 x.wd]] w (DoesOk w p sv m K x L M lv mv Lq Mq) := by
  obtain ⟨pl, nl, cl, rfl⟩ := hq.shape
  obtain ⟨pm, nm', cm, rfl⟩ := hmq.shape
  obtain ⟨px, nx, cx, rfl⟩ : ∃ p n c, xv = .slice p n c := by obtain ⟨_, p, c, _, _, h, _⟩ := hl; exact ⟨_, _, _, h⟩
  have hXL := rfl_L2 x hk
  obtain ⟨what, l, nm, cond, wd⟩ := x
  obtain ⟨⟨a0, a1⟩, ⟨b0, b1⟩, ⟨d0, d1⟩, hnm, hll⟩ := hx
  simp only at a0 a1 b0 b1 d0 d1 hnm hll hk hl
  have HXL := ahid hXL
  have HA := ahid hA
  have HT := ahid ht
  have HQ := ahid (And.intro hq hmq)
  have HS := ahid (And.intro hls (And.intro hms hxs))
  have HKB := ahid hKb
  have HL := ahid (And.intro hl (And.intro hnm hll))
  have hbl := hA.blocks
  have HO : Hid (∀ k, Own p sv m k → k < w.heap.size) := ahid (by
    rintro k (rfl | h | rfl)
    · exact hbl.1
    · exact hbl.2.2 k h
    · exact hbl.2.1)
  have HBX := ahid (Boxes.new w (.slice pl nl cl) (.slice pm nm' cm) what (.slice px nx cx) nm cond wd 33 38)
  have HBW := ahid (show Below w.heap.size w ((((w.alloc (.cells #[.slice pl nl cl, .slice pm nm' cm] 33)).alloc (.cells #[.int .u8 what, .slice px nx cx, .string nm, .int .u8 cond, .int .u32 wd] 38)).alloc (.cells #[.slice none 0 0, .slice none 0 0] 33)).alloc (.cells #[.slice none 0 0, .slice none 0 0] 33)) from by go_grown)
  clear hXL hA ht hq hmq hls hms hxs hKb hl hnm hll hbl
  go_enter Tryd.func10, Tryd.ntmps10
  go_wp2_with fail
  generalize (((w.alloc (.cells #[.slice pl nl cl, .slice pm nm' cm] 33)).alloc (.cells #[.int .u8 what, .slice px nx cx, .string nm, .int .u8 cond, .int .u32 wd] 38)).alloc (.cells #[.slice none 0 0, .slice none 0 0] 33)).alloc (.cells #[.slice none 0 0, .slice none 0 0] 33) = W at *
  have HA1 := ahid (HA.out.keep (Only.of_below (S := fun _ => False) HBW.out) (fun _ _ h => h) (fun _ _ h => h))
  refine (ajump_any W (HT.out.keep HBW.out) p m sv K L M HA1.out cond b0 b1 nm HL.out.2.1 (by omega)).mono ?_
  intro e W2 hh
  obtain ⟨rfl, hst⟩ := far_step HA1.out (jump_may b0) hh
  clear hh
  obtain ⟨v2, K2, g1, g2, g3, g4⟩ := hst
  have HG := ahid (show StepTo W p sv m K _ _ W2 from ⟨v2, K2, g1, g2, g3, g4⟩)
  have hsz2 := g2.size
  have HBX2 := ahid (HBX.out.keep g2 (fun k hk => .inl (HO.out k hk)))
  have HQ2 := ahid (And.intro ((HQ.out.1.keep HBW.out).keepO g2 (fun k hk => (HS.out.1 k hk).2)) ((HQ.out.2.keep HBW.out).keepO g2 (fun k hk => (HS.out.2.1 k hk).2)))
  have HL2 := ahid ((HL.out.1.keepb HBW.out).keepO g2 HS.out.2.2)
  have hszW := HBX.out.size
  clear g1 g2 g3 g4
  obtain ⟨q0, q1, _, _⟩ := HBX2.out.q
  obtain ⟨x0, x1, x2, x3, x4⟩ := HBX2.out.x
  have hlen : (nl : Int) = Lq.length := by
    rcases HQ.out.1.2 with ⟨h, h0⟩ | ⟨g, cap, h, _⟩
    · cases h; omega
    · cases h; rfl
  have HD := ahid (rjump_any W2 _ pm nm' cm Lq HQ2.out.1 17 cond (by omega) b0 nm (by omega))
  go_wp2_with fail
  refine HD.out.mono ?_
  rintro e W3 ⟨lv', rfl, hi, hb3, hloc⟩
  rw [show (if cond ≤ 6 then (0 : Int) else 2) = jumpE cond from rfl]
  obtain ⟨pl', nl', cl', rfl⟩ := hi.shape
  have HE := ahid (And.intro hi (And.intro hb3 hloc))
  have HBX3 := HBX2.out.keep (Only.of_below (S := fun _ => False) hb3) (fun k h => h.elim)
  clear q0 q1 x0 x1 x2 x3 x4 HD hi hb3 hloc
  generalize jumpE cond = q
  obtain ⟨r0, r1, rf0, rf1⟩ := HBX3.r
  obtain ⟨p0, p1, pf0, pf1⟩ := HBX3.p
  have hS := (Box2.keepO (Box2.mk r0 r1 rf0 rf1) (Box2.only (S := fun k => k = w.heap.size + 3) (Only.refl _ W3) rfl (.slice pl' nl' cl') (.slice pm nm' cm)) (by omega)).set (.slice pl' nl' cl') (.slice pm nm' cm)
  have hfin := DoesOk.fin HBW.out hszW HA.out HKB.out (b := true) (x := ⟨what, l, nm, cond, wd⟩) (Lq := Lq) (Mq := Mq) (lv' := .slice pl' nl' cl') (mv' := .slice pm nm' cm) (by rw [(HXL.out L M).1, (HXL.out L M).2]; exact HG.out) HE.out.2.1 (fun _ => rfl) (by rw [(HXL.out Lq Mq).1]; exact HE.out.1) (by rw [(HXL.out Lq Mq).2]; exact HQ2.out.2.keep HE.out.2.1) HE.out.2.2 (fun k hk => .inl hk) HS.out.1 HS.out.2.1 (.slice pl' nl' cl') (.slice pm nm' cm)
  clear HBX3
  go_wp2_with fail
  generalize (((W3.setCell ⟨w.heap.size + 3, 0, none⟩ (.slice pl' nl' cl')).setCell ⟨w.heap.size + 3, 1, none⟩ (.slice pm nm' cm)).setCell ⟨w.heap.size + 2, 0, none⟩ (.slice pl' nl' cl')).setCell ⟨w.heap.size + 2, 1, none⟩ (.slice pm nm' cm) = W9 at *
  obtain ⟨s0, s1', _, _⟩ := hS
  refine bodyPost_ret (by simp [results, Tryd.results10, go_sem, s0, s1']; try rfl) rfl ?_
  exact hfin
set_option maxRecDepth 100000 in
set_option maxHeartbeats 2000000 in
theorem does_3 (w : World) (ht : Tab w) (p m : Nat) (sv : Value) (K : Nat → Prop) (L : List It) (M : List (List UInt8 × Int)) (hA : AsmAt w p sv m K L M) (hKb : ∀ k, K k → k < w.heap.size) (lv mv : Value) (Lq : List It) (Mq : List (List UInt8 × Int)) (hq : ItemsAt w lv Lq) (hmq : MarksAt w mv Mq)
    (x : Actx) (xv : Value) (hx : x.bd) (hl : InsIn w xv x.l) (hk : x.what % 5 = 3) (hls : ∀ k, lv.ownBlock = some k → k < w.heap.size ∧ ¬ Own p sv m k) (hms : ∀ k, mv.ownBlock = some k → k < w.heap.size ∧ ¬ Own p sv m k) (hxs : 0 < x.l.length → ∀ k, xv.ownBlock = some k → ¬ Own p sv m k)
    (s1 : L.length + 1000 < 4294967296) (s2 : Lq.length + 1000 < 4294967296) (s3 : M.length < 4294967296) (s4 : Mq.length < 4294967296) :
    Calls Tryd.prog 10 #[.pointer (some ⟨p, 0, none⟩), .agg #[lv, mv], .agg #[.int .u8 x.what, xv, .string x.nm, .int .u8 x.cond, .int .u32 x.wd]] w (DoesOk w p sv m K x L M lv mv Lq Mq) := by
  obtain ⟨pl, nl, cl, rfl⟩ := hq.shape
  obtain ⟨pm, nm', cm, rfl⟩ := hmq.shape
  obtain ⟨px, nx, cx, rfl⟩ : ∃ p n c, xv = .slice p n c := by obtain ⟨_, p, c, _, _, h, _⟩ := hl; exact ⟨_, _, _, h⟩
  have hXL := rfl_L3 x hk
  obtain ⟨what, l, nm, cond, wd⟩ := x
  obtain ⟨⟨a0, a1⟩, ⟨b0, b1⟩, ⟨d0, d1⟩, hnm, hll⟩ := hx
  simp only at a0 a1 b0 b1 d0 d1 hnm hll hk hl
  have HXL := ahid hXL
  have HA := ahid hA
  have HT := ahid ht
  have HQ := ahid (And.intro hq hmq)
  have HS := ahid (And.intro hls (And.intro hms hxs))
  have HKB := ahid hKb
  have HL := ahid (And.intro hl (And.intro hnm hll))
  have hbl := hA.blocks
  have HO : Hid (∀ k, Own p sv m k → k < w.heap.size) := ahid (by
    rintro k (rfl | h | rfl)
    · exact hbl.1
    · exact hbl.2.2 k h
    · exact hbl.2.1)
  have HBX := ahid (Boxes.new w (.slice pl nl cl) (.slice pm nm' cm) what (.slice px nx cx) nm cond wd 33 38)
  have HBW := ahid (show Below w.heap.size w ((((w.alloc (.cells #[.slice pl nl cl, .slice pm nm' cm] 33)).alloc (.cells #[.int .u8 what, .slice px nx cx, .string nm, .int .u8 cond, .int .u32 wd] 38)).alloc (.cells #[.slice none 0 0, .slice none 0 0] 33)).alloc (.cells #[.slice none 0 0, .slice none 0 0] 33)) from by go_grown)
  clear hXL hA ht hq hmq hls hms hxs hKb hl hnm hll hbl
  go_enter Tryd.func10, Tryd.ntmps10
  go_wp2_with fail
  generalize (((w.alloc (.cells #[.slice pl nl cl, .slice pm nm' cm] 33)).alloc (.cells #[.int .u8 what, .slice px nx cx, .string nm, .int .u8 cond, .int .u32 wd] 38)).alloc (.cells #[.slice none 0 0, .slice none 0 0] 33)).alloc (.cells #[.slice none 0 0, .slice none 0 0] 33) = W at *
  have HA1 := ahid (HA.out.keep (Only.of_below (S := fun _ => False) HBW.out) (fun _ _ h => h) (fun _ _ h => h))
  refine (acall_any W (HT.out.keep HBW.out) p m sv K L M HA1.out nm HL.out.2.1 (by omega)).mono ?_
  intro e W2 hh
  obtain ⟨rfl, hst⟩ := far_step HA1.out ⟨fun _ => by omega, fun _ => call_may⟩ hh
  clear hh
  obtain ⟨v2, K2, g1, g2, g3, g4⟩ := hst
  have HG := ahid (show StepTo W p sv m K _ _ W2 from ⟨v2, K2, g1, g2, g3, g4⟩)
  have hsz2 := g2.size
  have HBX2 := ahid (HBX.out.keep g2 (fun k hk => .inl (HO.out k hk)))
  have HQ2 := ahid (And.intro ((HQ.out.1.keep HBW.out).keepO g2 (fun k hk => (HS.out.1 k hk).2)) ((HQ.out.2.keep HBW.out).keepO g2 (fun k hk => (HS.out.2.1 k hk).2)))
  have HL2 := ahid ((HL.out.1.keepb HBW.out).keepO g2 HS.out.2.2)
  have hszW := HBX.out.size
  clear g1 g2 g3 g4
  obtain ⟨q0, q1, _, _⟩ := HBX2.out.q
  obtain ⟨x0, x1, x2, x3, x4⟩ := HBX2.out.x
  have hlen : (nl : Int) = Lq.length := by
    rcases HQ.out.1.2 with ⟨h, h0⟩ | ⟨g, cap, h, _⟩
    · cases h; omega
    · cases h; rfl
  have HD := ahid (rjump_any W2 _ pm nm' cm Lq HQ2.out.1 18 0 (by omega) (by omega) nm (by omega))
  go_wp2_with fail
  refine HD.out.mono ?_
  rintro e W3 ⟨lv', rfl, hi, hb3, hloc⟩
  rw [show (if (0 : Int) ≤ 6 then (0 : Int) else 2) = jumpE 0 from rfl]
  obtain ⟨pl', nl', cl', rfl⟩ := hi.shape
  have HE := ahid (And.intro hi (And.intro hb3 hloc))
  have HBX3 := HBX2.out.keep (Only.of_below (S := fun _ => False) hb3) (fun k h => h.elim)
  clear q0 q1 x0 x1 x2 x3 x4 HD hi hb3 hloc
  generalize jumpE 0 = q
  obtain ⟨r0, r1, rf0, rf1⟩ := HBX3.r
  obtain ⟨p0, p1, pf0, pf1⟩ := HBX3.p
  have hS := (Box2.keepO (Box2.mk r0 r1 rf0 rf1) (Box2.only (S := fun k => k = w.heap.size + 3) (Only.refl _ W3) rfl (.slice pl' nl' cl') (.slice pm nm' cm)) (by omega)).set (.slice pl' nl' cl') (.slice pm nm' cm)
  have hfin := DoesOk.fin HBW.out hszW HA.out HKB.out (b := true) (x := ⟨what, l, nm, cond, wd⟩) (Lq := Lq) (Mq := Mq) (lv' := .slice pl' nl' cl') (mv' := .slice pm nm' cm) (by rw [(HXL.out L M).1, (HXL.out L M).2]; exact HG.out) HE.out.2.1 (fun _ => rfl) (by rw [(HXL.out Lq Mq).1]; exact HE.out.1) (by rw [(HXL.out Lq Mq).2]; exact HQ2.out.2.keep HE.out.2.1) HE.out.2.2 (fun k hk => .inl hk) HS.out.1 HS.out.2.1 (.slice pl' nl' cl') (.slice pm nm' cm)
  clear HBX3
  go_wp2_with fail
  generalize (((W3.setCell ⟨w.heap.size + 3, 0, none⟩ (.slice pl' nl' cl')).setCell ⟨w.heap.size + 3, 1, none⟩ (.slice pm nm' cm)).setCell ⟨w.heap.size + 2, 0, none⟩ (.slice pl' nl' cl')).setCell ⟨w.heap.size + 2, 1, none⟩ (.slice pm nm' cm) = W9 at *
  obtain ⟨s0, s1', _, _⟩ := hS
  refine bodyPost_ret (by simp [results, Tryd.results10, go_sem, s0, s1']; try rfl) rfl ?_
  exact hfin
set_option maxRecDepth 100000 in
set_option maxHeartbeats 2000000 in
theorem does_4 (w : World) (ht : Tab w) (p m : Nat) (sv : Value) (K : Nat → Prop) (L : List It) (M : List (List UInt8 × Int)) (hA : AsmAt w p sv m K L M) (hKb : ∀ k, K k → k < w.heap.size) (lv mv : Value) (Lq : List It) (Mq : List (List UInt8 × Int)) (hq : ItemsAt w lv Lq) (hmq : MarksAt w mv Mq)
    (x : Actx) (xv : Value) (hx : x.bd) (hl : InsIn w xv x.l) (hk : x.what % 5 = 4) (hls : ∀ k, lv.ownBlock = some k → k < w.heap.size ∧ ¬ Own p sv m k) (hms : ∀ k, mv.ownBlock = some k → k < w.heap.size ∧ ¬ Own p sv m k) (hxs : 0 < x.l.length → ∀ k, xv.ownBlock = some k → ¬ Own p sv m k)
    (s1 : L.length + 1000 < 4294967296) (s2 : Lq.length + 1000 < 4294967296) (s3 : M.length < 4294967296) (s4 : Mq.length < 4294967296) :
    Calls Tryd.prog 10 #[.pointer (some ⟨p, 0, none⟩), .agg #[lv, mv], .agg #[.int .u8 x.what, xv, .string x.nm, .int .u8 x.cond, .int .u32 x.wd]] w (DoesOk w p sv m K x L M lv mv Lq Mq) := by
  obtain ⟨pl, nl, cl, rfl⟩ := hq.shape
  obtain ⟨pm, nm', cm, rfl⟩ := hmq.shape
  obtain ⟨px, nx, cx, rfl⟩ : ∃ p n c, xv = .slice p n c := by obtain ⟨_, p, c, _, _, h, _⟩ := hl; exact ⟨_, _, _, h⟩
  have hXL := rfl_L4 x hk
  obtain ⟨what, l, nm, cond, wd⟩ := x
  obtain ⟨⟨a0, a1⟩, ⟨b0, b1⟩, ⟨d0, d1⟩, hnm, hll⟩ := hx
  simp only at a0 a1 b0 b1 d0 d1 hnm hll hk hl
  have HXL := ahid hXL
  have HA := ahid hA
  have HT := ahid ht
  have HQ := ahid (And.intro hq hmq)
  have HS := ahid (And.intro hls (And.intro hms hxs))
  have HKB := ahid hKb
  have HL := ahid (And.intro hl (And.intro hnm hll))
  have hbl := hA.blocks
  have HO : Hid (∀ k, Own p sv m k → k < w.heap.size) := ahid (by
    rintro k (rfl | h | rfl)
    · exact hbl.1
    · exact hbl.2.2 k h
    · exact hbl.2.1)
  have HBX := ahid (Boxes.new w (.slice pl nl cl) (.slice pm nm' cm) what (.slice px nx cx) nm cond wd 33 38)
  have HBW := ahid (show Below w.heap.size w ((((w.alloc (.cells #[.slice pl nl cl, .slice pm nm' cm] 33)).alloc (.cells #[.int .u8 what, .slice px nx cx, .string nm, .int .u8 cond, .int .u32 wd] 38)).alloc (.cells #[.slice none 0 0, .slice none 0 0] 33)).alloc (.cells #[.slice none 0 0, .slice none 0 0] 33)) from by go_grown)
  clear hXL hA ht hq hmq hls hms hxs hKb hl hnm hll hbl
  go_enter Tryd.func10, Tryd.ntmps10
  go_wp2_with fail
  generalize (((w.alloc (.cells #[.slice pl nl cl, .slice pm nm' cm] 33)).alloc (.cells #[.int .u8 what, .slice px nx cx, .string nm, .int .u8 cond, .int .u32 wd] 38)).alloc (.cells #[.slice none 0 0, .slice none 0 0] 33)).alloc (.cells #[.slice none 0 0, .slice none 0 0] 33) = W at *
  have HA1 := ahid (HA.out.keep (Only.of_below (S := fun _ => False) HBW.out) (fun _ _ h => h) (fun _ _ h => h))
  refine (aconst_any W (HT.out.keep HBW.out) p m sv K L M HA1.out cond wd b0 b1 d0 d1 (by omega)).mono ?_
  intro e W2 hh
  obtain ⟨rfl, hst⟩ := put_step HA1.out hh
  clear hh
  obtain ⟨v2, K2, g1, g2, g3, g4⟩ := hst
  have HG := ahid (show StepTo W p sv m K _ _ W2 from ⟨v2, K2, g1, g2, g3, g4⟩)
  have hsz2 := g2.size
  have HBX2 := ahid (HBX.out.keep g2 (fun k hk => .inl (HO.out k hk)))
  have HQ2 := ahid (And.intro ((HQ.out.1.keep HBW.out).keepO g2 (fun k hk => (HS.out.1 k hk).2)) ((HQ.out.2.keep HBW.out).keepO g2 (fun k hk => (HS.out.2.1 k hk).2)))
  have HL2 := ahid ((HL.out.1.keepb HBW.out).keepO g2 HS.out.2.2)
  have hszW := HBX.out.size
  clear g1 g2 g3 g4
  obtain ⟨q0, q1, _, _⟩ := HBX2.out.q
  obtain ⟨x0, x1, x2, x3, x4⟩ := HBX2.out.x
  have hlen : (nl : Int) = Lq.length := by
    rcases HQ.out.1.2 with ⟨h, h0⟩ | ⟨g, cap, h, _⟩
    · cases h; omega
    · cases h; rfl
  have hpt : (partsS cond wd).length ≤ 2 := parts_len cond wd
  have HP := ahid (fun W' => rparts_any W' cond wd b0 b1 d0 d1)
  have HD : Hid (∀ WA, Below W2.heap.size W2 WA → ∀ v, InsIn WA v (partsS cond wd) → Calls Tryd.prog 24 #[.agg #[.slice pl nl cl, .slice pm nm' cm], v] WA (fun e w' => ∃ pl' nl' cl', e = .returned (.tuple #[.agg #[.slice pl' nl' cl', .slice pm nm' cm], .int .i64 (putE (partsS cond wd))]) ∧ ItemsAt w' (.slice pl' nl' cl') (putL Lq (partsS cond wd)) ∧ Below WA.heap.size WA w' ∧ ∀ k, (Value.slice pl' nl' cl').ownBlock = some k → (Value.slice pl nl cl).ownBlock = some k ∨ WA.heap.size ≤ k)) :=
    ahid fun WA hWA v hv => (rput_any WA _ (.slice pm nm' cm) Lq (HQ2.out.1.keep hWA) ⟨_, _, _, rfl⟩ v _ hv (by omega)).mono fun e w' hh => by
      obtain ⟨lv', rfl, hi, hb, hloc⟩ := hh
      obtain ⟨pl', nl', cl', rfl⟩ := hi.shape
      exact ⟨pl', nl', cl', rfl, hi, hb, hloc⟩
  have HKS := ahid (show ∀ (w' : World) (u v : Value), (w'.cell? ⟨w.heap.size, 0, none⟩ = some (.slice pl nl cl) ∧ w'.cell? ⟨w.heap.size, 1, none⟩ = some (.slice pm nm' cm) ∧ w'.cell? ⟨w.heap.size + 1, 3, none⟩ = some (.int .u8 cond) ∧ w'.cell? ⟨w.heap.size + 1, 4, none⟩ = some (.int .u32 wd)) →
      (fun w' => w'.cell? ⟨w.heap.size, 0, none⟩ = some (.slice pl nl cl) ∧ w'.cell? ⟨w.heap.size, 1, none⟩ = some (.slice pm nm' cm) ∧ w'.cell? ⟨w.heap.size + 1, 3, none⟩ = some (.int .u8 cond) ∧ w'.cell? ⟨w.heap.size + 1, 4, none⟩ = some (.int .u32 wd)) ((w'.setCell ⟨w.heap.size + 3, 0, none⟩ u).setCell ⟨w.heap.size + 3, 1, none⟩ v) from fun w' u v h1 => by
    have k : ∀ (b i : Nat) (x : Value), b ≠ w.heap.size + 3 → w'.cell? ⟨b, i, none⟩ = some x → ((w'.setCell ⟨w.heap.size + 3, 0, none⟩ u).setCell ⟨w.heap.size + 3, 1, none⟩ v).cell? ⟨b, i, none⟩ = some x := fun b i x hne h => ((World.cell?_setCell_far _ _ _ _ (fun e => hne e.symm)).trans (World.cell?_setCell_far _ _ _ _ (fun e => hne e.symm))).trans h
    exact ⟨k _ _ _ (by omega) h1.1, k _ _ _ (by omega) h1.2.1, k _ _ _ (by omega) h1.2.2.1, k _ _ _ (by omega) h1.2.2.2⟩)
  go_wp2_with fail
  go_region_held3 (fun w' => w'.cell? ⟨w.heap.size, 0, none⟩ = some (.slice pl nl cl) ∧ w'.cell? ⟨w.heap.size, 1, none⟩ = some (.slice pm nm' cm) ∧ w'.cell? ⟨w.heap.size + 1, 3, none⟩ = some (.int .u8 cond) ∧ w'.cell? ⟨w.heap.size + 1, 4, none⟩ = some (.int .u32 wd))
    (first | exact ⟨q0, q1, x3, x4⟩ | exact ⟨kA.q.c0, kA.q.c1, kA.x.c3, kA.x.c4⟩ | exact ⟨kB.q.c0, kB.q.c1, kB.x.c3, kB.x.c4⟩ | exact HKS.out _ _ _ ⟨kB.q.c0, kB.q.c1, kB.x.c3, kB.x.c4⟩)
    (first
      | (go_at_call 27; refine (HP.out _).mono ?_; rintro e WA ⟨vA, rfl, hinA, hbA0⟩; obtain ⟨pA, nA, cA, rfl⟩ : ∃ p n c, vA = .slice p n c := (by obtain ⟨_, p, c, _, _, h, _⟩ := hinA; exact ⟨_, _, _, h⟩); have hbA : Below W2.heap.size W2 WA := ((Below.refl W2.heap.size W2).drew).trans hbA0; have kA := HBX2.out.keep (Only.of_below (S := fun _ => False) hbA) (fun k h => h.elim))
      | (go_at_call 24; refine (HD.out WA hbA _ hinA).mono ?_; rintro e W3 ⟨pl', nl', cl', rfl, hi, hb30, hloc⟩; have hb3 : Below W2.heap.size W2 W3 := hbA.trans (hb30.mono hbA.size); have kB := HBX2.out.keep (Only.of_below (S := fun _ => False) hb3) (fun k h => h.elim); obtain ⟨p0, p1, pf0, pf1⟩ := kB.p))
  all_goals
    have HE := ahid (And.intro hi (And.intro hb3 (show ∀ k, (Value.slice pl' nl' cl').ownBlock = some k → (Value.slice pl nl cl).ownBlock = some k ∨ W2.heap.size ≤ k from fun k hk => (hloc k hk).imp id (fun h => Nat.le_trans hbA.size h))))
    clear q0 q1 x0 x1 x2 x3 x4 HD HP hi hb30 hloc hinA hbA0 kA HKS
    generalize putE (partsS cond wd) = q
    obtain ⟨r0, r1, rf0, rf1⟩ := kB.r
    have hS := (Box2.keepO (Box2.mk r0 r1 rf0 rf1) (Box2.only (S := fun k => k = w.heap.size + 3) (Only.refl _ W3) rfl (.slice pl' nl' cl') (.slice pm nm' cm)) (by omega)).set (.slice pl' nl' cl') (.slice pm nm' cm)
    have hfin := DoesOk.fin HBW.out hszW HA.out HKB.out (b := true) (x := ⟨what, l, nm, cond, wd⟩) (Lq := Lq) (Mq := Mq) (lv' := .slice pl' nl' cl') (mv' := .slice pm nm' cm) (by rw [(HXL.out L M).1, (HXL.out L M).2]; exact HG.out) HE.out.2.1 (fun _ => rfl) (by rw [(HXL.out Lq Mq).1]; exact HE.out.1) (by rw [(HXL.out Lq Mq).2]; exact HQ2.out.2.keep HE.out.2.1) HE.out.2.2 (fun k hk => .inl hk) HS.out.1 HS.out.2.1 (.slice pl' nl' cl') (.slice pm nm' cm)
    clear kB
    go_wp2_with fail
    generalize (((W3.setCell ⟨w.heap.size + 3, 0, none⟩ (.slice pl' nl' cl')).setCell ⟨w.heap.size + 3, 1, none⟩ (.slice pm nm' cm)).setCell ⟨w.heap.size + 2, 0, none⟩ (.slice pl' nl' cl')).setCell ⟨w.heap.size + 2, 1, none⟩ (.slice pm nm' cm) = W9 at *
    obtain ⟨s0, s1', _, _⟩ := hS
    refine bodyPost_ret (by simp [results, Tryd.results10, go_sem, s0, s1']; try rfl) rfl ?_
    exact hfin
theorem does_any (w : World) (ht : Tab w) (p m : Nat) (sv : Value) (K : Nat → Prop) (L : List It) (M : List (List UInt8 × Int)) (hA : AsmAt w p sv m K L M) (hKb : ∀ k, K k → k < w.heap.size) (lv mv : Value) (Lq : List It) (Mq : List (List UInt8 × Int)) (hq : ItemsAt w lv Lq) (hmq : MarksAt w mv Mq)
    (x : Actx) (xv : Value) (hx : x.bd) (hl : InsIn w xv x.l) (hls : ∀ k, lv.ownBlock = some k → k < w.heap.size ∧ ¬ Own p sv m k) (hms : ∀ k, mv.ownBlock = some k → k < w.heap.size ∧ ¬ Own p sv m k) (hxs : 0 < x.l.length → ∀ k, xv.ownBlock = some k → ¬ Own p sv m k)
    (s1 : L.length + 1000 < 4294967296) (s2 : Lq.length + 1000 < 4294967296) (s3 : M.length < 4294967296) (s4 : Mq.length < 4294967296) :
    Calls Tryd.prog 10 #[.pointer (some ⟨p, 0, none⟩), .agg #[lv, mv], .agg #[.int .u8 x.what, xv, .string x.nm, .int .u8 x.cond, .int .u32 x.wd]] w (DoesOk w p sv m K x L M lv mv Lq Mq) := by
  have hw := hx.1
  have h5 : x.what % 5 = 0 ∨ x.what % 5 = 1 ∨ x.what % 5 = 2 ∨ x.what % 5 = 3 ∨ x.what % 5 = 4 := by omega
  rcases h5 with h | h | h | h | h
  · exact does_0 w ht p m sv K L M hA hKb lv mv Lq Mq hq hmq x xv hx hl h hls hms hxs s1 s2 s3 s4
  · exact does_1 w ht p m sv K L M hA hKb lv mv Lq Mq hq hmq x xv hx hl h hls hms hxs s1 s2 s3 s4
  · exact does_2 w ht p m sv K L M hA hKb lv mv Lq Mq hq hmq x xv hx hl h hls hms hxs s1 s2 s3 s4
  · exact does_3 w ht p m sv K L M hA hKb lv mv Lq Mq hq hmq x xv hx hl h hls hms hxs s1 s2 s3 s4
  · exact does_4 w ht p m sv K L M hA hKb lv mv Lq Mq hq hmq x xv hx hl h hls hms hxs s1 s2 s3 s4
end Go.Proofs.YtimhpohlaagbpaaDoor
