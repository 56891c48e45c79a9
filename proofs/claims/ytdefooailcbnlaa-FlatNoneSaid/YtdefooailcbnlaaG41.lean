/- Walks of the package flat: alu, print. -/
import Derived.Test.YtdefooailcbnlaaG27
import Derived.Test.YtdefooailcbnlaaG40
import Derived.Test.YtdefooailcbnlaaG35
import Derived.Deep.RegionHeld3
import Derived.Deep.RegionLaw
import Derived.Handy
namespace Go.Proofs.Ytdefooailcbnlaa
open Go.RowKit
set_option linter.unusedVariables false
set_option linter.unusedSimpArgs false
theorem cell_one_new3 (w : World) (v : Value) (T : TypeId) : ∀ (j : Nat) u, [v][j]? = some u → (w.alloc (.cells #[v] T)).cell? ((⟨w.heap.size, 0, none⟩ : Addr).add j) = some u := by
  intro j u hj
  have h := cells_new w #[v] T j u
  exact h (by simpa using hj)
theorem step_append_place {P : Program} (w : World) {ops : Array Oper} {o : Oper} {a : Act} {K : Act → World → Prop} {Q : Exit → Act → World → Prop} {E : Prop} (hgd : o.guard = none) (s x : Operand) (t : TypeId)
    (ho : o.op = .call { callee := .builtin .append, args := #[s, x], argTypes := #[t, t] }) (e : TypeId) (i : TypeInfo) (z : Value) (bytes : Nat) (ht : P.underlying t = some (.slice e)) (hi : P.info? e = some i) (hz : i.zero = some z)
    (hsize : i.size = 1) (hby : i.bytes = bytes) (hzs : z.cells.size = 1) (v : Value) (n : Nat) (xs : List Value) (hs : a.eval s = v) (hown : w.ownsRow 0 e 1 v n xs)
    (ad : Addr) (m c : Nat) (news : List Value) (hx : a.eval x = .slice (some ad) m c) (hl : news.length = m * 1) (hnews : ∀ j u, news[j]? = some u → w.cell? (ad.add j) = some u) (h1 : ∀ u ∈ news, u.oneCell' = true)
    (h63 : n + m ≤ maxLen) (hbytes : (n + m) * bytes ≤ 140737488355328)
    (h : ∀ v' w', w'.ownsRow 0 e 1 v' (n + m) (xs ++ news) → w.grownBy w' v.ownBlock → (v'.ownBlock = v.ownBlock ∨ ∀ k, v'.ownBlock = some k → w.heap.size ≤ k) → K (a.put o.dst v') w') :
    if Region.wanted o (yielded ops a.tmps) = true then Oper.wp P o a w K Q else E := by
  have hw : Region.wanted o (yielded ops a.tmps) = true := by simp [Region.wanted, hgd]
  rw [if_pos hw]
  obtain ⟨v', w', hrun, r1, r2, r3⟩ := run_append_place (P := P) w t o.type e i z bytes ht hi hz hsize hby hzs v n xs hown ad m c news hl hnews h1 h63 hbytes
  unfold Oper.wp execOp
  simp only [ho, resolve, invoke, builtin, Sem.run_bind, Sem.run_pure, Result.andThen_ok, List.map_toArray, List.map_cons, List.map_nil, hs, hx, hrun]
  exact h _ _ r1 r2 r3
theorem ownsRow_shape {w : World} {base : Nat} {e : TypeId} {size n : Nat} {v : Value} {xs : List Value} (h : w.ownsRow base e size v n xs) : ∃ p m c, v = .slice p m c := by
  rcases h.2 with ⟨rfl, _⟩ | ⟨g, cap, cur, rfl, _⟩
  · exact ⟨_, _, _, rfl⟩
  · exact ⟨_, _, _, rfl⟩
theorem MdlAt.more {W Wa w' : World} {p : Prg} {G : Gh} {m : Nat} {s : Mdl} (h : MdlAt W p G m s) (hb : Below W.heap.size W Wa) {v' : Value} {a : Int} (hown : w'.ownsRow 0 31 1 v' (s.out.length + 1) (u32s s.out ++ [.int .u32 a])) (hg : Wa.grownBy w' G.outv.ownBlock)
    (hpl : v'.ownBlock = G.outv.ownBlock ∨ ∀ k, v'.ownBlock = some k → Wa.heap.size ≤ k) : Goes W p G m { s with out := s.out ++ [a] } (w'.setCell ⟨m, 4, none⟩ v') := by
  have hmo : some m ≠ G.outv.ownBlock := fun e => by
    have := h.ro m e.symm
    rw [h.rm] at this; cases this
  have ho : Only (fun k => k = m ∨ G.outv.ownBlock = some k) W (w'.setCell ⟨m, 4, none⟩ v') := ((Only.of_below hb).grown hg (fun k hk _ => .inr hk)).setCell (p := ⟨m, 4, none⟩) (.inl rfl) _
  have hmlt : m < W.heap.size := h.lt m (by rw [h.rm]; simp)
  have hpm : w'.heap[m]? = W.heap[m]? := (hg.block m (Nat.lt_of_lt_of_le hmlt hb.size) hmo).trans (hb.block m hmlt)
  have hp := obj_setCell (hpm.trans h.ptr) (i := 4) v'
  have hnew : ∀ k, v'.ownBlock = some k → G.R k = .out ∨ (G.R k = .none ∧ W.heap.size ≤ k) := fun k hk => by
    rcases hpl with e | e
    · exact .inl (h.ro k (by rw [← e]; exact hk))
    · have hge := Nat.le_trans hb.size (e k hk)
      refine .inr ⟨?_, hge⟩
      cases hr : G.R k with
      | none => rfl
      | _ => exact absurd (h.lt k (by rw [hr]; simp)) (by omega)
  have hR : ∀ k, G.R k ≠ .none → (if v'.ownBlock = some k then Role.out else G.R k) = G.R k := fun k hk => by
    split
    · rename_i e
      rcases hnew k e with e2 | ⟨e2, _⟩
      · exact e2.symm
      · exact absurd e2 hk
    · rfl
  have hown' : (w'.setCell ⟨m, 4, none⟩ v').ownsRow 0 31 1 v' (s.out ++ [a]).length (u32s (s.out ++ [a])) := by
    rw [List.length_append, show u32s (s.out ++ [a]) = u32s s.out ++ [.int .u32 a] by simp [u32s]]
    refine hown.keepw ((Only.refl (fun k => k = m) w').setCell (p := ⟨m, 4, none⟩) rfl _) (fun k hk e => ?_)
    have e2 : k = m := e
    subst e2
    rcases hnew k hk with e3 | ⟨e3, _⟩
    · rw [h.rm] at e3; cases e3
    · rw [h.rm] at e3; cases e3
  refine ⟨_, h.out' ho (fun k hk => ?_) v' (s.out ++ [a]) (fun k => if v'.ownBlock = some k then Role.out else G.R k) hR (fun k hk => ?_) (fun k hk => ?_) (fun k hk => by simp only [if_pos hk]) hown' (by rw [hp]; simp), ?_, fun k hk => ?_⟩
  · rcases hk with rfl | e
    · exact .inl h.rm
    · exact .inr (h.ro k e)
  · by_cases e : v'.ownBlock = some k
    · exact (hown'.lt k e).2
    · rw [if_neg e] at hk
      exact Nat.lt_of_lt_of_le (h.lt k hk) ho.size
  · by_cases e : v'.ownBlock = some k
    · rw [if_pos e] at hk; cases hk
    · rw [if_neg e] at hk; exact hk
  · refine ho.mono (fun k _ hk => ?_)
    rcases hk with rfl | e
    · exact ⟨by rw [h.rm]; simp, by rw [h.rm]; simp⟩
    · exact ⟨by rw [h.ro k e]; simp, by rw [h.ro k e]; simp⟩
  · show (if v'.ownBlock = some k then Role.out else G.R k) = G.R k
    split
    · rename_i e
      rcases hnew k e with e2 | ⟨_, e2⟩
      · exact e2.symm
      · omega
    · rfl
theorem Goes.from {w0 w w' : World} {p : Prg} {G : Gh} {m : Nat} {s : Mdl} (hb : Below w0.heap.size w0 w) (h : Goes w p G m s w') : Goes w0 p G m s w' := by
  obtain ⟨G', h1, h2, h3⟩ := h
  exact ⟨G', h1, (Only.of_below hb).fresh h2 (fun _ _ h => h), fun k hk => h3 k (Nat.lt_of_lt_of_le hk hb.size)⟩
theorem info_u32 : (Try.prog.info? 31).map (fun i => (i.zero, i.size, i.bytes)) = some (some (.int .u32 0), 1, 4) := by kernel_rfl
set_option maxRecDepth 100000 in
set_option maxHeartbeats 2000000 in
theorem alu_in (x : Insx) (pa : Option Addr) (na ca : Nat) (w : World) (p : Prg) (G : Gh) (m : Nat) (s : Mdl) (up : List Fr) (f : Fr) (g k : Nat) (h : OpIn w p G m s up f g k) (ha : 0 ≤ x.a ∧ x.a < f.regs.length) (hb : 0 ≤ x.b ∧ x.b < f.regs.length) (hw : Words f.regs) (hn : 0 ≤ x.n ∧ x.n ≤ 13) (hdo : doB x.n.toNat (regAt f.regs x.b) = true) (hd : 0 ≤ x.d ∧ x.d < f.regs.length) :
    Calls Try.prog 43 #[.pointer (some ⟨m, 0, none⟩), .pointer (some ⟨g, up.length * 4, none⟩), x.agg (.slice pa na ca)] w fun e w' => e = .returned (.tuple #[]) ∧ Goes w p G m (put s (up ++ [f.wr x.d (doW x.n.toNat (regAt f.regs x.a) (regAt f.regs x.b))])) w' := by
  have HB := fhid (IBox.new w x (.slice pa na ca) 44)
  have HW := fhid (show Below w.heap.size w (w.alloc (.cells #[.int .u8 x.op, .int .i64 x.d, .int .i64 x.a, .int .i64 x.b, .int .u32 x.n, .int .i64 x.f, .slice pa na ca, .int .i64 x.l1, .int .i64 x.l2] 44)) from (Below.refl _ _).alloc (Nat.le_refl _) _)
  have HN := fhid (h.keepb HW.out)
  clear h
  have hav0 := words_at' hw x.a
  have hbv0 := words_at' hw x.b
  have hwn : IntKind.u8.wrap x.n = x.n := IntWalk.u8_in _ (by omega)
  obtain ⟨ha0, ha1⟩ := ha
  obtain ⟨hb0, hb1⟩ := hb
  clear hw
  go_enter Try.func43, Try.ntmps43
  go_wp2_with fail
  generalize w.alloc (.cells #[.int .u8 x.op, .int .i64 x.d, .int .i64 x.a, .int .i64 x.b, .int .u32 x.n, .int .i64 x.f, .slice pa na ca, .int .i64 x.l1, .int .i64 x.l2] 44) = W at *
  obtain ⟨_, b0, b1, b2, b3, b4, b5, b6, b7, b8⟩ := HB.out
  obtain ⟨_, _, _, c0, c1, c2, c3, fz, rg⟩ := HN.out.fr
  have ra : W.cell? ⟨k, x.a.toNat, none⟩ = some (.int .u32 (regAt f.regs x.a)) := rg.cell (words_at (k := x.a.toNat) (by omega))
  have rb : W.cell? ⟨k, x.b.toNat, none⟩ = some (.int .u32 (regAt f.regs x.b)) := rg.cell (words_at (k := x.b.toNat) (by omega))
  generalize hav : regAt f.regs x.a = av at ra hav0
  generalize hbv : regAt f.regs x.b = bv at rb hbv0 hdo
  have Hav := fhid hav
  have Hbv := fhid hbv
  clear hav hbv
  have HD := fhid (show Calls Try.prog 68 #[.int .u8 x.n, .int .u32 av, .int .u32 bv] W.drew fun e w' => e = .returned (.tuple #[.int .u32 (doW x.n.toNat av bv), .bool (doB x.n.toNat bv)]) ∧ Below W.drew.heap.size W.drew w' from do_any x.n hn.1 (by omega) av bv hav0.1 hav0.2 hbv0.1 hbv0.2 W.drew)
  rw [hdo] at HD
  generalize hrv : doW x.n.toNat av bv = rv at HD
  have Hrv := fhid hrv
  have HKS := fhid (show ∀ w', Below W.heap.size W w' → w'.cell? ⟨w.heap.size, 4, none⟩ = some (.int .u32 x.n) ∧ w'.cell? ⟨w.heap.size, 2, none⟩ = some (.int .i64 x.a) ∧ w'.cell? ⟨w.heap.size, 3, none⟩ = some (.int .i64 x.b) ∧ w'.cell? ⟨g, up.length * 4 + 3, none⟩ = some (.slice (some ⟨k, 0, none⟩) f.regs.length f.regs.length) ∧ w'.cell? ⟨k, x.a.toNat, none⟩ = some (.int .u32 av) ∧ w'.cell? ⟨k, x.b.toNat, none⟩ = some (.int .u32 bv) from fun w' hb =>
    ⟨(hb.cell (p := ⟨w.heap.size, 4, none⟩) (World.block_lt_of_cell? _ _ b4)).trans b4, (hb.cell (p := ⟨w.heap.size, 2, none⟩) (World.block_lt_of_cell? _ _ b2)).trans b2, (hb.cell (p := ⟨w.heap.size, 3, none⟩) (World.block_lt_of_cell? _ _ b3)).trans b3, (hb.cell (p := ⟨g, up.length * 4 + 3, none⟩) (World.block_lt_of_cell? _ _ c3)).trans c3, (hb.cell (p := ⟨k, x.a.toNat, none⟩) (World.block_lt_of_cell? _ _ ra)).trans ra, (hb.cell (p := ⟨k, x.b.toNat, none⟩) (World.block_lt_of_cell? _ _ rb)).trans rb⟩)
  have hle : W.heap.size ≤ W.heap.size := Nat.le_refl _
  clear hrv hdo b0 b1 b5 b6 b7 b8 c0 c1 c2 fz rg
  go_region_held3 (fun w' => w'.cell? ⟨w.heap.size, 4, none⟩ = some (.int .u32 x.n) ∧ w'.cell? ⟨w.heap.size, 2, none⟩ = some (.int .i64 x.a) ∧ w'.cell? ⟨w.heap.size, 3, none⟩ = some (.int .i64 x.b) ∧ w'.cell? ⟨g, up.length * 4 + 3, none⟩ = some (.slice (some ⟨k, 0, none⟩) f.regs.length f.regs.length) ∧ w'.cell? ⟨k, x.a.toNat, none⟩ = some (.int .u32 av) ∧ w'.cell? ⟨k, x.b.toNat, none⟩ = some (.int .u32 bv)) (first | (refine HKS.out _ ?_; go_grown; done))
    (first | (go_at_call 68; (with_reducible refine HD.out.mono ?_); rintro e W3 ⟨rfl, hb30⟩; have hb3 : Below W.heap.size W W3 := ((Below.refl W.heap.size W).drew).trans hb30; have hle3 : W.heap.size ≤ W3.heap.size := hb3.size))
  have HN3 := fhid (HN.out.keepb hb3)
  have HB3 := fhid (HB.out.only (S := fun _ => False) (Only.of_below hb3) id)
  have HW3 := fhid (HW.out.trans (hb3.mono HW.out.size))
  clear hb3 hb30 hle3 hle HKS HD HN HB HW b2 b3 b4 c3 ra rb
  have Hd := fhid hd
  obtain ⟨hd0, hd1⟩ := hd
  obtain ⟨_, b0, b1, b2, b3, b4, b5, b6, b7, b8⟩ := HB3.out
  obtain ⟨_, _, _, c0, c1, c2, c3, fz, rg⟩ := HN3.out.fr
  have r1 := rg.cell (words_at (k := x.d.toNat) (by omega))
  have rf := rg.frozen x.d.toNat
  clear rg fz
  go_wp2_with fail
  go_region
  all_goals
    go_wp2_with fail
    go_returns
    rw [Hav.out, Hbv.out, Hrv.out]
    exact ⟨rfl, HN3.out.goReg HW3.out Hd.out _⟩
set_option maxRecDepth 100000 in
set_option maxHeartbeats 2000000 in
theorem alu_out (x : Insx) (pa : Option Addr) (na ca : Nat) (w : World) (p : Prg) (G : Gh) (m : Nat) (s : Mdl) (up : List Fr) (f : Fr) (g k : Nat) (h : OpIn w p G m s up f g k) (ha : 0 ≤ x.a ∧ x.a < f.regs.length) (hb : 0 ≤ x.b ∧ x.b < f.regs.length) (hw : Words f.regs) (hn : 0 ≤ x.n ∧ x.n ≤ 13) (hdo : doB x.n.toNat (regAt f.regs x.b) = false) :
    Calls Try.prog 43 #[.pointer (some ⟨m, 0, none⟩), .pointer (some ⟨g, up.length * 4, none⟩), x.agg (.slice pa na ca)] w fun e w' => e = .returned (.tuple #[]) ∧ MdlAt w' p G m (fault s 1) ∧ Only G.own w w' := by
  have HB := fhid (IBox.new w x (.slice pa na ca) 44)
  have HW := fhid (show Below w.heap.size w (w.alloc (.cells #[.int .u8 x.op, .int .i64 x.d, .int .i64 x.a, .int .i64 x.b, .int .u32 x.n, .int .i64 x.f, .slice pa na ca, .int .i64 x.l1, .int .i64 x.l2] 44)) from (Below.refl _ _).alloc (Nat.le_refl _) _)
  have HN := fhid (h.keepb HW.out)
  clear h
  have hav0 := words_at' hw x.a
  have hbv0 := words_at' hw x.b
  have hwn : IntKind.u8.wrap x.n = x.n := IntWalk.u8_in _ (by omega)
  obtain ⟨ha0, ha1⟩ := ha
  obtain ⟨hb0, hb1⟩ := hb
  clear hw
  go_enter Try.func43, Try.ntmps43
  go_wp2_with fail
  generalize w.alloc (.cells #[.int .u8 x.op, .int .i64 x.d, .int .i64 x.a, .int .i64 x.b, .int .u32 x.n, .int .i64 x.f, .slice pa na ca, .int .i64 x.l1, .int .i64 x.l2] 44) = W at *
  obtain ⟨_, b0, b1, b2, b3, b4, b5, b6, b7, b8⟩ := HB.out
  obtain ⟨_, _, _, c0, c1, c2, c3, fz, rg⟩ := HN.out.fr
  have ra : W.cell? ⟨k, x.a.toNat, none⟩ = some (.int .u32 (regAt f.regs x.a)) := rg.cell (words_at (k := x.a.toNat) (by omega))
  have rb : W.cell? ⟨k, x.b.toNat, none⟩ = some (.int .u32 (regAt f.regs x.b)) := rg.cell (words_at (k := x.b.toNat) (by omega))
  generalize hav : regAt f.regs x.a = av at ra hav0
  generalize hbv : regAt f.regs x.b = bv at rb hbv0 hdo
  have Hav := fhid hav
  have Hbv := fhid hbv
  clear hav hbv
  have HD := fhid (show Calls Try.prog 68 #[.int .u8 x.n, .int .u32 av, .int .u32 bv] W.drew fun e w' => e = .returned (.tuple #[.int .u32 (doW x.n.toNat av bv), .bool (doB x.n.toNat bv)]) ∧ Below W.drew.heap.size W.drew w' from do_any x.n hn.1 (by omega) av bv hav0.1 hav0.2 hbv0.1 hbv0.2 W.drew)
  rw [hdo] at HD
  generalize hrv : doW x.n.toNat av bv = rv at HD
  have Hrv := fhid hrv
  have HKS := fhid (show ∀ w', Below W.heap.size W w' → w'.cell? ⟨w.heap.size, 4, none⟩ = some (.int .u32 x.n) ∧ w'.cell? ⟨w.heap.size, 2, none⟩ = some (.int .i64 x.a) ∧ w'.cell? ⟨w.heap.size, 3, none⟩ = some (.int .i64 x.b) ∧ w'.cell? ⟨g, up.length * 4 + 3, none⟩ = some (.slice (some ⟨k, 0, none⟩) f.regs.length f.regs.length) ∧ w'.cell? ⟨k, x.a.toNat, none⟩ = some (.int .u32 av) ∧ w'.cell? ⟨k, x.b.toNat, none⟩ = some (.int .u32 bv) from fun w' hb =>
    ⟨(hb.cell (p := ⟨w.heap.size, 4, none⟩) (World.block_lt_of_cell? _ _ b4)).trans b4, (hb.cell (p := ⟨w.heap.size, 2, none⟩) (World.block_lt_of_cell? _ _ b2)).trans b2, (hb.cell (p := ⟨w.heap.size, 3, none⟩) (World.block_lt_of_cell? _ _ b3)).trans b3, (hb.cell (p := ⟨g, up.length * 4 + 3, none⟩) (World.block_lt_of_cell? _ _ c3)).trans c3, (hb.cell (p := ⟨k, x.a.toNat, none⟩) (World.block_lt_of_cell? _ _ ra)).trans ra, (hb.cell (p := ⟨k, x.b.toNat, none⟩) (World.block_lt_of_cell? _ _ rb)).trans rb⟩)
  have hle : W.heap.size ≤ W.heap.size := Nat.le_refl _
  clear hrv hdo b0 b1 b5 b6 b7 b8 c0 c1 c2 fz rg
  go_region_held3 (fun w' => w'.cell? ⟨w.heap.size, 4, none⟩ = some (.int .u32 x.n) ∧ w'.cell? ⟨w.heap.size, 2, none⟩ = some (.int .i64 x.a) ∧ w'.cell? ⟨w.heap.size, 3, none⟩ = some (.int .i64 x.b) ∧ w'.cell? ⟨g, up.length * 4 + 3, none⟩ = some (.slice (some ⟨k, 0, none⟩) f.regs.length f.regs.length) ∧ w'.cell? ⟨k, x.a.toNat, none⟩ = some (.int .u32 av) ∧ w'.cell? ⟨k, x.b.toNat, none⟩ = some (.int .u32 bv)) (first | (refine HKS.out _ ?_; go_grown; done))
    (first | (go_at_call 68; (with_reducible refine HD.out.mono ?_); rintro e W3 ⟨rfl, hb30⟩; have hb3 : Below W.heap.size W W3 := ((Below.refl W.heap.size W).drew).trans hb30; have hle3 : W.heap.size ≤ W3.heap.size := hb3.size))
  have HN3 := fhid (HN.out.keepb hb3)
  have HB3 := fhid (HB.out.only (S := fun _ => False) (Only.of_below hb3) id)
  have HW3 := fhid (HW.out.trans (hb3.mono HW.out.size))
  clear hb3 hb30 hle3 hle HKS HD HN HB HW b2 b3 b4 c3 ra rb
  go_wp2_with fail
  refine (fault_any W3 p G m s HN3.out.at' 1).mono ?_
  rintro e w' ⟨rfl, h1, h2⟩
  go_wp2_with fail
  go_returns
  exact ⟨rfl, h1, (Only.of_below (S := G.own) HW3.out).fresh h2 (fun i _ e => by rw [e]; exact HN3.out.own.2.2)⟩
set_option maxRecDepth 100000 in
set_option maxHeartbeats 2000000 in
theorem print_any (x : Insx) (pa : Option Addr) (na ca : Nat) (w : World) (p : Prg) (G : Gh) (m : Nat) (s : Mdl) (up : List Fr) (f : Fr) (g k : Nat) (h : OpIn w p G m s up f g k) (ha : 0 ≤ x.a ∧ x.a < f.regs.length) (hol : s.out.length < 4294967296) :
    Calls Try.prog 48 #[.pointer (some ⟨m, 0, none⟩), .pointer (some ⟨g, up.length * 4, none⟩), x.agg (.slice pa na ca)] w fun e w' => e = .returned (.tuple #[]) ∧ Goes w p G m { s with out := s.out ++ [regAt f.regs x.a] } w' := by
  have HB := fhid (IBox.new w x (.slice pa na ca) 44)
  have HW := fhid (show Below w.heap.size w (w.alloc (.cells #[.int .u8 x.op, .int .i64 x.d, .int .i64 x.a, .int .i64 x.b, .int .u32 x.n, .int .i64 x.f, .slice pa na ca, .int .i64 x.l1, .int .i64 x.l2] 44)) from (Below.refl _ _).alloc (Nat.le_refl _) _)
  have HN := fhid (h.keepb HW.out)
  clear h
  go_enter Try.func48, Try.ntmps48
  go_wp2_with fail
  generalize w.alloc (.cells #[.int .u8 x.op, .int .i64 x.d, .int .i64 x.a, .int .i64 x.b, .int .u32 x.n, .int .i64 x.f, .slice pa na ca, .int .i64 x.l1, .int .i64 x.l2] 44) = W at *
  obtain ⟨_, b0, b1, b2, b3, b4, b5, b6, b7, b8⟩ := HB.out
  obtain ⟨_, _, _, c0, c1, c2, c3, fz, rg⟩ := HN.out.fr
  have ra : W.cell? ⟨k, x.a.toNat, none⟩ = some (.int .u32 (regAt f.regs x.a)) := rg.cell (words_at (k := x.a.toNat) (by omega))
  generalize hav : regAt f.regs x.a = av at ra
  have Hav := fhid hav
  clear hav
  obtain ⟨ha0, ha1⟩ := ha
  obtain ⟨⟨m3, m4, m5, m6, m7, m8, m9⟩, _, mz⟩ := HN.out.at'.cellsm
  have mf4 := mz 4
  have hml := World.block_lt_of_cell? _ _ m4
  clear mz m3 m5 m6 m7 m8 m9
  obtain ⟨i0, hi, hz0, hz1, hz2⟩ := info_parts info_u32
  have HO := fhid (fun (w' : World) (hb : Below W.heap.size W w') => (HN.out.at'.out.keepw (Only.of_below (S := fun _ => False) hb) (fun _ _ h => h)))
  have HM := fhid (fun (w' w2 : World) (hb : Below W.heap.size W w') (hg : w'.grownBy w2 G.outv.ownBlock) => (show w2.cell? ⟨m, 4, none⟩ = some G.outv ∧ w2.frozen? ⟨m, 4, none⟩ = false from by
    have hlt := World.block_lt_of_cell? _ _ m4
    have hne : some m ≠ G.outv.ownBlock := fun e => by
      have := HN.out.at'.ro m e.symm
      rw [HN.out.at'.rm] at this; cases this
    have e := hg.block m (Nat.lt_of_lt_of_le hlt hb.size) hne
    exact ⟨(World.cell?_of_block (a := ⟨m, 4, none⟩) e).trans ((hb.cell (p := ⟨m, 4, none⟩) hlt).trans m4), (World.frozen?_of_block (a := ⟨m, 4, none⟩) e).trans ((hb.frozen (p := ⟨m, 4, none⟩) hlt).trans mf4)⟩))
  clear b0 b1 b3 b4 b5 b6 b7 b8 c0 c1 c2 fz rg
  go_region_law (first | (refine step_append_place _ rfl _ _ 26 rfl 31 i0 _ 4 Try.underlying26 hi hz0 hz1 hz2 rfl G.outv s.out.length (u32s s.out) (by first | rfl | (go_simp; done) | (simp [Act.eval]; done)) (HO.out _ (by go_grown)) ⟨W.heap.size, 0, none⟩ 1 1 [.int .u32 av] (by first | rfl | (go_simp; done) | (simp [Act.eval]; done)) rfl (cell_one_new3 _ _ _) (by simp [Value.oneCell']) (by unfold maxLen; omega) (by omega) ?_; intro v' w' hown hgrow hpl; obtain ⟨q4, qf4⟩ := HM.out _ w' (by go_grown) hgrow; obtain ⟨pv, nv, cv, rfl⟩ := ownsRow_shape hown))
  all_goals
    have hba : Below W.heap.size W (W.drew.alloc (.cells #[.int .u32 av] 31)) := ((Below.refl _ _).drew).alloc (Nat.le_refl _) _
    have hf := HN.out.at'.more hba hown hgrow hpl
    go_wp2_with fail
    go_returns
    rw [Hav.out]
    exact ⟨rfl, hf.from HW.out⟩
end Go.Proofs.Ytdefooailcbnlaa
