/- Several texts in one: FlatCall, FlatDisp, FlatOne, FlatRun, FlatOut, FlatSame, FlatStop. -/
import Derived.Test.YtdefooailcbnlaaG36
import Derived.Test.YtdefooailcbnlaaG37
import Derived.Test.YtdefooailcbnlaaG42
import Derived.Laws.EntriesVeiled
/- The walk of flat.call. -/
namespace Go.Proofs.Ytdefooailcbnlaa
open Go.RowKit
set_option linter.unusedVariables false
set_option linter.unusedSimpArgs false
theorem infoframe : (Try.prog.info? 78).map (fun i => (i.zero.map fun z => z.cells.size, i.size, i.bytes)) = some (some 4, 4, 48) := by kernel_rfl
theorem info4_parts {P : Program} {t : TypeId} {n s b : Nat} (h : (P.info? t).map (fun i => (i.zero.map fun z => z.cells.size, i.size, i.bytes)) = some (some n, s, b)) : ∃ i z, P.info? t = some i ∧ i.zero = some z ∧ i.size = s ∧ i.bytes = b ∧ z.cells.size = n := by
  obtain ⟨i, hi, he⟩ := Option.map_eq_some_iff.1 h
  simp only [Prod.mk.injEq] at he
  obtain ⟨h1, h2, h3⟩ := he
  obtain ⟨z, hz, hn⟩ := Option.map_eq_some_iff.1 h1
  exact ⟨i, z, hi, hz, h2, h3, hn⟩
/-- The arguments that a call hands over. -/
def argsR (f : Fr) (x : Insx) : List Int := x.args.map (regAt f.regs)
theorem cells4_new (w : World) (a b c d : Value) (T : TypeId) : ∀ (j : Nat) u, [a, b, c, d][j]? = some u → (w.alloc (.cells #[a, b, c, d] T)).cell? ((⟨w.heap.size, 0, none⟩ : Addr).add j) = some u := fun j u hj => cells_new w #[a, b, c, d] T j u (by simpa using hj)
set_option maxRecDepth 100000 in
set_option maxHeartbeats 4000000 in
theorem call_any (x : Insx) (pa : Option Addr) (ca : Nat) (w : World) (p : Prg) (G : Gh) (m : Nat) (s : Mdl) (up : List Fr) (f : Fr) (g k : Nat) (h : OpIn w p G m s up f g k) (hI : IntsIn w (.slice pa x.args.length ca) x.args) (ha : ∀ r ∈ x.args, 0 ≤ r ∧ r < f.regs.length) (hf : 0 ≤ x.f) (fn : Fnx) (hfn : p.funcs[x.f.toNat]? = some fn) (R : Nat) (hR : fn.regs = R) (hR2 : R ≤ 4096) (hal : x.args.length ≤ R) (i0 : Nat) (hi0 : f.i = i0 + 1) (hi63 : i0 < 140737488355328) (hup : up.length < 1048576) :
    Calls Try.prog 47 #[.pointer (some ⟨m, 0, none⟩), .pointer (some ⟨g, up.length * 4, none⟩), x.agg (.slice pa x.args.length ca)] w fun e w' => e = .returned (.tuple #[]) ∧ Goes w p G m (put s (up ++ [{ f with i := i0 }, ⟨x.f.toNat, 0, 0, argsR f x ++ List.replicate (R - x.args.length) 0⟩])) w' := by
  have HB := fhid (IBox.new w x (.slice pa x.args.length ca) 44)
  have HW := fhid (show Below w.heap.size w (w.alloc (.cells #[.int .u8 x.op, .int .i64 x.d, .int .i64 x.a, .int .i64 x.b, .int .u32 x.n, .int .i64 x.f, .slice pa x.args.length ca, .int .i64 x.l1, .int .i64 x.l2] 44)) from (Below.refl _ _).alloc (Nat.le_refl _) _)
  have HN := fhid (h.keepb HW.out)
  have HI := fhid (IntsIn.keep hI HW.out)
  have hgw : g < w.heap.size := h.at'.lt g (by rw [h.fr.rg]; simp)
  obtain ⟨fi, hfi⟩ := Int.eq_ofNat_of_zero_le hf
  have HFI := fhid hfi
  obtain ⟨iu, hiu, hzu0, hzu1, hzu2⟩ := info_parts info_u32
  obtain ⟨ifr, zfr, hif, hzf, hsf, hbf, hcf⟩ := info4_parts infoframe
  clear h hI hfi
  go_enter Try.func47, Try.ntmps47
  go_wp2_with fail
  generalize w.alloc (.cells #[.int .u8 x.op, .int .i64 x.d, .int .i64 x.a, .int .i64 x.b, .int .u32 x.n, .int .i64 x.f, .slice pa x.args.length ca, .int .i64 x.l1, .int .i64 x.l2] 44) = W at *
  obtain ⟨_, b0, b1, b2, b3, b4, b5, b6, b7, b8⟩ := HB.out
  clear b0 b1 b2 b3 b4 b7 b8
  go_wp2_with fail
  go_loopw [6, 13] (fun av i wr => ∃ q : Nat, q ≤ x.args.length ∧ i = .int .i64 q ∧ wr.ownsRow W.heap.size 31 1 av q (u32s ((argsR f x).take q)) ∧ Below W.heap.size W wr) (fun _ i _ => x.args.length - (intOf i).toNat)
  case atStart => exact ⟨0, Nat.zero_le _, rfl, World.ownsRow_nil _ _ _ _, Below.refl _ _⟩
  case round =>
    obtain ⟨q, hq, rfl, hown, hb⟩ := hrel
    obtain ⟨plv, clv, rfl, hbk⟩ := own_shape hown
    have HOWN := fhid hown
    have HBB := fhid hb
    clear hown hb hbk
    have HNr := fhid (HN.out.keepb HBB.out)
    obtain ⟨_, pI, cI, bI, oI, hIe, ⟨hIp, _⟩, hIc⟩ := IntsIn.keep HI.out HBB.out
    cases hIe
    obtain ⟨_, _, _, c0, c1, c2, c3, fz, rg⟩ := HNr.out.fr
    have bb6 := (HBB.out.cell (World.block_lt_of_cell? _ _ b6)).trans b6
    by_cases hlt : q < x.args.length
    · obtain rfl := hIp (by omega)
      have hx := List.getElem?_eq_getElem hlt
      have ci := (hIc q _ hx).1
      rw [Nat.mul_one] at ci
      obtain ⟨hr0, hr1⟩ := ha _ (List.getElem_mem hlt)
      have hra : (argsR f x)[q]? = some (regAt f.regs x.args[q]) := by unfold argsR; rw [List.getElem?_map, hx]; rfl
      have hta : (argsR f x).take (q + 1) = (argsR f x).take q ++ [regAt f.regs x.args[q]] := by
        rw [List.take_add_one, hra]; rfl
      have HT := fhid hta
      have rr : wr.cell? ⟨k, (x.args[q]).toNat, none⟩ = some (.int .u32 (regAt f.regs x.args[q])) := rg.cell (words_at (k := (x.args[q]).toNat) (by omega))
      have hql : (q : Int) < x.args.length := by omega
      have e1 : IntKind.i64.wrap ((q : Int) + 1) = ((q + 1 : Nat) : Int) := by rw [IntWalk.i64_in _ (by omega)]; omega
      generalize x.args[q] = ri at *
      generalize regAt f.regs ri = rv at *
      have hbs := HBB.out.size
      have hklt := HNr.out.at'.lt k (by rw [HNr.out.fr.rk]; simp)
      clear hx hra hta hIc hIp c0 c1 c2 fz rg
      go_wp2_with (at_builtin; refine wpList_append_own _ rfl _ _ 26 rfl W.heap.size 31 iu _ 1 4 Try.underlying26 hiu hzu0 hzu1 hzu2 rfl (by decide) (.slice plv q clv) q _ rfl (HOWN.out.alloc _) ⟨wr.heap.size, 0, none⟩ 1 1 [.int .u32 rv] rfl rfl (cell_one_new3 _ _ _) (by simp [Value.oneCell']) (by unfold maxLen; omega) (by omega) (by simp; omega) ?_; intro v' w1 hown1 hgrow1 hnil1)
      have hb9 : Below W.heap.size W w1 := (HBB.out.alloc hbs _).grown hgrow1 (by simp; omega) (fun k hk => (HOWN.out.lt k hk).1)
      have hown9 : w1.ownsRow W.heap.size 31 1 v' (q + 1) (u32s ((argsR f x).take (q + 1))) := by
        rw [HT.out, show u32s ((argsR f x).take q ++ [rv]) = u32s ((argsR f x).take q) ++ [.int .u32 rv] by simp [u32s]]
        exact hown1
      have HF := fhid (And.intro hown9 hb9)
      clear hown1 hgrow1 hnil1 hb9 hown9
      go_wp2_with fail
      exact ⟨⟨q + 1, by omega, by go_num, HF.out.1, HF.out.2⟩, by simp [intOf]; omega⟩
    · obtain rfl : q = x.args.length := by omega
      have f2 := fz (up.length * 4 + 2)
      have c2' : wr.cell? ⟨g, up.length * 4 + 2, none⟩ = some (.int .i64 ((i0 + 1 : Nat) : Int)) := by rw [c2, hi0]
      have e1 : IntKind.i64.wrap (((i0 + 1 : Nat) : Int) - 1) = (i0 : Int) := by rw [IntWalk.i64_in _ (by omega)]; omega
      have bb5 := (HBB.out.cell (World.block_lt_of_cell? _ _ b5)).trans b5
      have hbx : (⟨g, up.length * 4 + 2, none⟩ : Addr) ≠ ⟨w.heap.size, 5, none⟩ := fun e => by have : g = w.heap.size := congrArg Addr.block e; omega
      have HN5 := fhid (HNr.out.setI i0)
      have HO5 := fhid (show Only G.own w (wr.setCell ⟨g, up.length * 4 + 2, none⟩ (.int .i64 i0)) from ((Only.of_below HW.out).fresh (Only.of_below (S := fun _ => False) HBB.out) (fun _ _ h => h.elim)).setCell (p := ⟨g, up.length * 4 + 2, none⟩) HNr.out.own.1 _)
      have HA5 := fhid (show Reads32 (wr.setCell ⟨g, up.length * 4 + 2, none⟩ (.int .i64 i0)) (.slice plv x.args.length clv) (argsR f x) from by
        have hlen : (argsR f x).length = x.args.length := by unfold argsR; rw [List.length_map]
        have h1 : (wr.setCell ⟨g, up.length * 4 + 2, none⟩ (.int .i64 i0)).ownsRow 0 31 1 (.slice plv x.args.length clv) (argsR f x).length (u32s (argsR f x)) := by
          have h2 := HOWN.out
          rw [← hlen, List.take_length, hlen] at h2
          rw [hlen]
          refine (ownsRow_low h2 (Nat.zero_le _)).keepw ((Only.refl (fun b => b = g) wr).setCell (p := ⟨g, up.length * 4 + 2, none⟩) rfl _) (fun b hb e => ?_)
          have := (h2.lt b hb).1
          have hws := HW.out.size
          have : b = g := e
          omega
        exact Reads32.of_own h1)
      have bx5 : (wr.setCell ⟨g, up.length * 4 + 2, none⟩ (.int .i64 i0)).cell? ⟨w.heap.size, 5, none⟩ = some (.int .i64 fi) := by
        rw [World.cell?_setCell_other _ _ _ _ hbx, bb5, HFI.out]
      clear hIc hIp c0 c1 c2 c3 fz rg HNr
      go_wp2_with fail
      clear c2' f2 bb6 bb5 b6 b5 e1
      generalize wr.setCell ⟨g, up.length * 4 + 2, none⟩ (.int .i64 i0) = W5 at *
      obtain ⟨⟨m3, m4, m5, m6, m7, m8, m9⟩, _, _⟩ := HN5.out.at'.cellsm
      have hcur : s.cur < s.thr.length := by
        have := (List.getElem?_eq_some_iff.1 HN5.out.thr).1
        simpa [put] using this
      have m5' : W5.cell? ⟨m, 5, none⟩ = some (.slice (some ⟨G.tb, 0, none⟩) s.thr.length G.tc) := by rw [m5]; simp [put]
      have m6' : W5.cell? ⟨m, 6, none⟩ = some (.int .i64 s.cur) := m6
      have hcl : (s.cur : Int) < s.thr.length := by omega
      clear m3 m4 m5 m6 m7 m8 m9
      go_quiet (fail)
      have hd := below_drewN (Below.refl W5.heap.size W5) nq
      replace HN5 := fhid (HN5.out.keepb hd)
      replace HO5 := fhid (HO5.out.drewN nq)
      replace HA5 := fhid (HA5.out.keepb hd)
      replace bx5 := (hd.cell (World.block_lt_of_cell? _ _ bx5)).trans bx5
      clear m5' m6' hd HB HN HI HOWN HBB
      generalize W5.drewN nq = W6 at *
      obtain ⟨⟨cap, hv⟩, hrg, hrk, c0, c1, c2, c3, fz, rg⟩ := HN5.out.fr
      obtain ⟨g', cap', t0, t1, t2, t3⟩ := HN5.out.at'.slices HN5.out.thr
      have hv' : G.vs[s.cur]? = some (.slice (some ⟨g, 0, none⟩) (up.length + 1) cap) := hv
      have t3' : G.vs[s.cur]? = some (.slice (some ⟨g', 0, none⟩) (up.length + 1) cap') := by have h := t3; rw [List.length_append] at h; exact h
      rw [hv'] at t3'
      cases t3'
      have t0' : W6.cell? ⟨G.tb, s.cur, none⟩ = some (.slice (some ⟨g, 0, none⟩) (up.length + 1) cap) := by have h := t0; rw [List.length_append] at h; exact h
      have t1' : W6.frozen? ⟨G.tb, s.cur, none⟩ = false := t1
      obtain ⟨_, ⟨_, _, m2⟩, _⟩ := HN5.out.at'.cellsm
      obtain ⟨_, pr2, _⟩ := HN5.out.at'.prog
      have hdr : Below W6.heap.size W6 W6.drew := (Below.refl _ _).drew
      have hfn' : p.funcs[fi]? = some fn := by have := hfn; rw [HFI.out] at this; simpa using this
      have HFR := fhid (frameOf_any W6.drew m G.fv p.funcs m2 (FnsIn.keep pr2 hdr) fi fn hfn' R hR hR2 (.slice plv x.args.length clv) (argsR f x) (HA5.out.keepb hdr) (by unfold argsR; rw [List.length_map]; exact hal))
      obtain ⟨gg, capp, c, he, h1, h2, h3, h4⟩ := (HN5.out.at'.frs s.cur _ _ hv' HN5.out.thr).ex
      have h3' : W6.ownsRow 0 78 4 (.slice (some ⟨g, 0, none⟩) (up.length + 1) cap) (up.length + 1) (c.flatMap frC) := by simpa using h3
      have HOW := fhid (fun (w' : World) (hb : Below W6.heap.size W6 w') => h3'.keepw (Only.of_below (S := fun _ => False) hb) (fun _ _ h => h))
      have htbl := World.block_lt_of_cell? _ _ t0'
      have HTC := fhid (fun (w' : World) (hb : Below W6.heap.size W6 w') => And.intro ((hb.cell (p := ⟨G.tb, s.cur, none⟩) htbl).trans t0') ((hb.frozen (p := ⟨G.tb, s.cur, none⟩) htbl).trans t1'))
      have hgtb : g ≠ G.tb := fun e => by have := HN5.out.at'.rt; rw [← e, hrg] at this; cases this
      have HTG := fhid (fun (w' w2 : World) (hb : Below W6.heap.size W6 w') (hg : w'.grownBy w2 (some g)) => (show w2.cell? ⟨G.tb, s.cur, none⟩ = some (.slice (some ⟨g, 0, none⟩) (up.length + 1) cap) ∧ w2.frozen? ⟨G.tb, s.cur, none⟩ = false from by
        have e := hg.block G.tb (Nat.lt_of_lt_of_le htbl hb.size) (by simpa using fun h => hgtb h.symm)
        exact ⟨(World.cell?_of_block (a := ⟨G.tb, s.cur, none⟩) e).trans (HTC.out w' hb).1, (World.frozen?_of_block (a := ⟨G.tb, s.cur, none⟩) e).trans (HTC.out w' hb).2⟩))
      have HK := fhid (And.intro h1 (And.intro h2 (And.intro h4 (And.intro hv' hrg))))
      clear he h1 h2 h3 h3' h4 hv hv' hrg hrk c0 c1 c2 c3 fz rg t0 t1 t2 t3 m2 pr2 hfn' hfn
      go_wp2_with fail
      go_region_law (first
        | (go_simp; go_at_call 28; refine HFR.out.mono ?_; rintro e W7 ⟨kn, rfl, hkn, hkr, hb70⟩; have hb7 : Below W6.heap.size W6 W7 := hdr.trans hb70; have hle7 : W6.heap.size ≤ W7.heap.size := hb7.size; obtain ⟨q5, qf5⟩ := HTC.out W7 hb7; have hq7 := World.block_lt_of_cell? _ _ q5)
        | (refine step_append_placeN _ rfl _ _ 80 rfl 78 ifr zfr 4 48 Try.underlying80 hif hzf hsf hbf hcf (by decide) (.slice (some ⟨g, 0, none⟩) (up.length + 1) cap) (up.length + 1) (c.flatMap frC) (by first | rfl | (go_simp; done) | (simp [Act.eval]; done)) (HOW.out _ (by go_grown)) ⟨W7.heap.size, 0, none⟩ 1 1 [.int .i64 fi, .int .i64 0, .int .i64 0, .slice (some ⟨kn, 0, none⟩) R R] (by first | rfl | (go_simp; done) | (simp [Act.eval]; done)) rfl (cells4_new _ _ _ _ _ _) (by simp [Value.oneCell']) (by unfold maxLen; omega) (by omega) ?_; intro v' w9 hown9 hgrow9 hpl9; obtain ⟨q9, qf9⟩ := HTG.out _ w9 (by go_grown) hgrow9; obtain ⟨pv9, nv9, cv9, rfl⟩ := ownsRow_shape hown9))
      all_goals
        have hlenA : (argsR f x).length = x.args.length := by unfold argsR; rw [List.length_map]
        have hlenR : (argsR f x ++ List.replicate (R - x.args.length) 0).length = R := by rw [List.length_append, List.length_replicate, hlenA]; omega
        rw [hlenA] at hkr
        have hba : Below W6.heap.size W6 (W7.alloc (.cells #[.int .i64 fi, .int .i64 0, .int .i64 0, .slice (some ⟨kn, 0, none⟩) R R] 78)) := hb7.alloc hle7 _
        obtain ⟨G9, h9, o9, r9⟩ := HN5.out.at'.push HN5.out.thr (by rw [List.length_append]; exact HK.out.2.2.2.1) HK.out.2.2.2.2 c HK.out.2.1 HK.out.2.2.1 hba ⟨fi, 0, 0, argsR f x ++ List.replicate (R - x.args.length) 0⟩ kn hkn (hkr.alloc _) (.slice pv9 nv9 cv9) (by
          rw [List.length_append, show frC ((⟨fi, 0, 0, argsR f x ++ List.replicate (R - x.args.length) 0⟩ : Fr), kn) = [.int .i64 fi, .int .i64 0, .int .i64 0, .slice (some ⟨kn, 0, none⟩) R R] by simp only [frC, hlenR]; rfl]
          exact hown9) hgrow9 hpl9
        have hst : ({ put s (up ++ [{ f with i := i0 }]) with thr := (put s (up ++ [{ f with i := i0 }])).thr.set (put s (up ++ [{ f with i := i0 }])).cur (up ++ [{ f with i := i0 }] ++ [⟨fi, 0, 0, argsR f x ++ List.replicate (R - x.args.length) 0⟩]) } : Mdl) = put s (up ++ [{ f with i := i0 }, ⟨x.f.toNat, 0, 0, argsR f x ++ List.replicate (R - x.args.length) 0⟩]) := by
          rw [HFI.out]
          simp [put]
        rw [hst] at h9
        go_wp2_with fail
        go_returns
        exact ⟨rfl, ⟨G9, h9, HO5.out.fresh o9 (fun _ _ h => h), fun k hk => r9 k (Nat.lt_of_lt_of_le hk HO5.out.size)⟩⟩
end Go.Proofs.Ytdefooailcbnlaa
/- What the instruction at which a frame stands does: the eleven walks as one. -/
namespace Go.Proofs.Ytdefooailcbnlaa
open Go.RowKit
set_option linter.unusedVariables false
set_option linter.unusedSimpArgs false
/-- The function that does an operation. -/
def fnOf (op : Nat) : Nat :=
  match op with
  | 0 => 42 | 1 => 43 | 2 => 44 | 3 => 45 | 4 => 46 | 5 => 47
  | 6 => 48 | 7 => 49 | 8 => 50 | 9 => 51 | _ => 52
theorem live_pos {t : List (List Fr)} {i : Nat} {l : List Fr} (h : t[i]? = some l) (hl : l ≠ []) : 0 < (live t).length := List.length_pos_of_mem (mem_live.2 ⟨l, h, hl⟩)
theorem act_0 {p : Prg} {s : Mdl} {up : List Fr} {f : Fr} {x : Insx} (h : x.op = 0) : actS p s up f x = put s (up ++ [f.next.wr x.d x.n]) := by unfold actS; simp [h]
theorem act_1 {p : Prg} {s : Mdl} {up : List Fr} {f : Fr} {x : Insx} (h : x.op = 1) : actS p s up f x = if doB x.n.toNat (regAt f.regs x.b) = true then put s (up ++ [f.next.wr x.d (doW x.n.toNat (regAt f.regs x.a) (regAt f.regs x.b))]) else fault s 1 := by unfold actS; simp [h]
theorem act_2 {p : Prg} {s : Mdl} {up : List Fr} {f : Fr} {x : Insx} (h : x.op = 2) : actS p s up f x = put s (up ++ [f.next.wr x.d (regAt f.regs x.a)]) := by unfold actS; simp [h]
theorem act_3 {p : Prg} {s : Mdl} {up : List Fr} {f : Fr} {x : Insx} (h : x.op = 3) : actS p s up f x = if (regAt f.regs x.a).toNat < s.heap.length then put s (up ++ [f.next.wr x.d (s.heap.getD (regAt f.regs x.a).toNat 0)]) else fault s 2 := by unfold actS; simp [h]
theorem act_4 {p : Prg} {s : Mdl} {up : List Fr} {f : Fr} {x : Insx} (h : x.op = 4) : actS p s up f x = if (regAt f.regs x.a).toNat < s.heap.length then put { s with heap := s.heap.set (regAt f.regs x.a).toNat (regAt f.regs x.b) } (up ++ [f.next]) else fault s 2 := by unfold actS; simp [h]
theorem act_5 {p : Prg} {s : Mdl} {up : List Fr} {f : Fr} {x : Insx} (h : x.op = 5) : actS p s up f x = put s (up ++ [f, frameOf p x.f.toNat (x.args.map (regAt f.regs))]) := by unfold actS; simp [h]
theorem act_6 {p : Prg} {s : Mdl} {up : List Fr} {f : Fr} {x : Insx} (h : x.op = 6) : actS p s up f x = put { s with out := s.out ++ [regAt f.regs x.a] } (up ++ [f.next]) := by unfold actS; simp [h]
theorem act_7 {p : Prg} {s : Mdl} {up : List Fr} {f : Fr} {x : Insx} (h : x.op = 7) : actS p s up f x = choose (put s (up ++ [f.next])) := by unfold actS; simp [h]
theorem act_8 {p : Prg} {s : Mdl} {up : List Fr} {f : Fr} {x : Insx} (h : x.op = 8) : actS p s up f x = put s (up ++ [f.to x.l1]) := by unfold actS; simp [h]
theorem act_9 {p : Prg} {s : Mdl} {up : List Fr} {f : Fr} {x : Insx} (h : x.op = 9) : actS p s up f x = put s (up ++ [f.to (if regAt f.regs x.a = 0 then x.l2 else x.l1)]) := by unfold actS; simp [h]
theorem act_10 {p : Prg} {s : Mdl} {up : List Fr} {f : Fr} {x : Insx} (h : x.op = 10) : actS p s up f x = retS p s up (regAt f.regs x.a) := by unfold actS; simp [h]
/-- What comes of an instruction: the step, or a fault ahead of which the frame stood one further. -/
def Done1 (W : World) (p : Prg) (G : Gh) (m : Nat) (s : Mdl) (up : List Fr) (f : Fr) (x : Insx) (e : Ending) (w' : World) : Prop :=
  e = .returned (.tuple #[]) ∧ ((Goes W p G m (actS p s up f x) w' ∧ (actS p s up f x).kind ≠ 2) ∨ ∃ why, actS p s up f x = fault s why ∧ MdlAt w' p G m (fault (put s (up ++ [f.next])) why) ∧ Only G.own W w')
theorem Done1.yes {W w' : World} {p : Prg} {G : Gh} {m : Nat} {s s' : Mdl} {up : List Fr} {f : Fr} {x : Insx} {e : Ending} (he : e = .returned (.tuple #[])) (h : Goes W p G m s' w') (hs : actS p s up f x = s') (hk : s'.kind ≠ 2) : Done1 W p G m s up f x e w' := ⟨he, .inl (by rw [hs]; exact ⟨h, hk⟩)⟩
/-- The bounds that a run keeps. -/
theorem disp_any {p : Prg} (hg : Good p) {N : Nat} {s : Mdl} (hok : Ok p N s) (hk : s.kind = 0) {up : List Fr} {f : Fr} {x : Insx} (hat : AtIns p s up f x) (hn : up.length ≤ N) (hN : N < 1000000) (hxn : 0 ≤ x.n ∧ x.n < 4294967296) (hx0 : 0 ≤ x.op) (hi63 : ∀ (g : Fr) y, insOf p g = some y → g.i < 140737488355328)
    (W : World) (G : Gh) (m g k : Nat) (h : OpIn W p G m (put s (up ++ [f.next])) up f.next g k) (pa : Option Addr) (ca : Nat) (hI : IntsIn W (.slice pa x.args.length ca) x.args) :
    Calls Try.prog (fnOf x.op.toNat) #[.pointer (some ⟨m, 0, none⟩), .pointer (some ⟨g, up.length * 4, none⟩), x.agg (.slice pa x.args.length ca)] W (Done1 W p G m s up f x) := by
  obtain ⟨fn, b, hf1, hf2, hf3, hgf, hfr, hend, hF⟩ := hat.st.fn
  obtain ⟨hop, _, hd0, ha0, hb0, hargs0, hn13, h5, h89⟩ := hF
  have hr := hat.st.reads
  have hwr := hat.st.writes
  have hrl : f.next.regs.length = f.regs.length := rfl
  have hww : Words f.next.regs := hat.fok.2.2
  have hhl : (put s (up ++ [f.next])).heap.length ≤ 1024 := by have := hok.heap; have := hg.heap; show s.heap.length ≤ 1024; omega
  have hkp : ∀ l : List Fr, (put s l).kind ≠ 2 := fun l => by show s.kind ≠ 2; omega
  have hcur := hok.cur
  have hT : s.thr.length ≤ 4 := by rw [hok.tl]; exact hg.nt.2
  have hmx : ∀ (l : List Fr), l.length ≤ N + 1 → ∀ (t : Nat) q, (put s l).thr[t]? = some q → q.length < 4294967296 := fun l hl t q hq => by
    rcases List.mem_or_eq_of_mem_set (List.mem_of_getElem? hq) with h' | rfl
    · have := (hok.fr q h').2; omega
    · omega
  have hcases : x.op = 0 ∨ x.op = 1 ∨ x.op = 2 ∨ x.op = 3 ∨ x.op = 4 ∨ x.op = 5 ∨ x.op = 6 ∨ x.op = 7 ∨ x.op = 8 ∨ x.op = 9 ∨ x.op = 10 := by omega
  rcases hcases with e | e | e | e | e | e | e | e | e | e | e
  · have hd := hwr (by unfold writesB; rw [e]; rfl)
    rw [show fnOf x.op.toNat = 42 by rw [e]; rfl]
    refine (konst_any x pa _ ca W p G m _ up f.next g k h hd).mono ?_
    rintro e' w' ⟨he, hgo⟩
    rw [put_put] at hgo
    exact Done1.yes he hgo (act_0 e) (hkp _)
  · have ha := hr x.a (by unfold readsS; rw [if_pos (.inl e)]; simp)
    have hb := hr x.b (by unfold readsS; rw [if_pos (.inl e)]; simp)
    have hd := hwr (by unfold writesB; rw [e]; rfl)
    rw [show fnOf x.op.toNat = 43 by rw [e]; rfl]
    by_cases hdo : doB x.n.toNat (regAt f.regs x.b) = true
    · refine (alu_in x pa _ ca W p G m _ up f.next g k h ha hb hww ⟨hxn.1, hn13 e⟩ hdo hd).mono ?_
      rintro e' w' ⟨he, hgo⟩
      rw [put_put] at hgo
      exact Done1.yes he hgo (by rw [act_1 e, if_pos hdo]; rfl) (hkp _)
    · refine (alu_out x pa _ ca W p G m _ up f.next g k h ha hb hww ⟨hxn.1, hn13 e⟩ (show doB x.n.toNat (regAt f.regs x.b) = false by simpa using hdo)).mono ?_
      rintro e' w' ⟨he, h1, h2⟩
      exact ⟨he, .inr ⟨1, by rw [act_1 e, if_neg hdo], h1, h2⟩⟩
  · have ha := hr x.a (by unfold readsS; rw [if_neg (by omega), if_pos (by omega)]; simp)
    have hd := hwr (by unfold writesB; rw [e]; rfl)
    rw [show fnOf x.op.toNat = 44 by rw [e]; rfl]
    refine (mov_any x pa _ ca W p G m _ up f.next g k h hd ha).mono ?_
    rintro e' w' ⟨he, hgo⟩
    rw [put_put] at hgo
    exact Done1.yes he hgo (act_2 e) (hkp _)
  · have ha := hr x.a (by unfold readsS; rw [if_neg (by omega), if_pos (by omega)]; simp)
    have hd := hwr (by unfold writesB; rw [e]; rfl)
    rw [show fnOf x.op.toNat = 45 by rw [e]; rfl]
    by_cases hin : (regAt f.regs x.a).toNat < s.heap.length
    · refine (load_in x pa _ ca W p G m _ up f.next g k h ha hww hhl hin hd).mono ?_
      rintro e' w' ⟨he, hgo⟩
      rw [put_put] at hgo
      exact Done1.yes he hgo (by rw [act_3 e, if_pos hin]; rfl) (by show s.kind ≠ 2; omega)
    · refine (load_out x pa _ ca W p G m _ up f.next g k h ha hww hhl hin).mono ?_
      rintro e' w' ⟨he, h1, h2⟩
      exact ⟨he, .inr ⟨2, by rw [act_3 e, if_neg hin], h1, h2⟩⟩
  · have ha := hr x.a (by unfold readsS; rw [if_pos (.inr e)]; simp)
    have hb := hr x.b (by unfold readsS; rw [if_pos (.inr e)]; simp)
    rw [show fnOf x.op.toNat = 46 by rw [e]; rfl]
    by_cases hin : (regAt f.regs x.a).toNat < s.heap.length
    · refine (store_in x pa _ ca W p G m _ up f.next g k h ha hww hhl hin hb).mono ?_
      rintro e' w' ⟨he, hgo⟩
      exact Done1.yes he hgo (by rw [act_4 e, if_pos hin]; rfl) (by show s.kind ≠ 2; omega)
    · refine (store_out x pa _ ca W p G m _ up f.next g k h ha hww hhl hin).mono ?_
      rintro e' w' ⟨he, h1, h2⟩
      exact ⟨he, .inr ⟨2, by rw [act_4 e, if_neg hin], h1, h2⟩⟩
  · obtain ⟨c1, c2, c3⟩ := h5 e
    have hfl : x.f.toNat < p.funcs.length := by omega
    have hfn := List.getElem?_eq_getElem hfl
    have hgg := hg.fn _ (List.getElem_mem hfl)
    obtain ⟨a1, a2, a3, a4⟩ := hgg.args
    obtain ⟨R, hR⟩ := Int.eq_ofNat_of_zero_le (show 0 ≤ (p.funcs[x.f.toNat]).regs by omega)
    have hao : argsOf p.funcs x.f.toNat = (p.funcs[x.f.toNat]).args := by unfold argsOf; rw [hfn]; rfl
    have hrn : regsN p x.f.toNat = R := by unfold regsN; rw [hfn]; simp [hR]
    rw [show fnOf x.op.toNat = 47 by rw [e]; rfl]
    refine (call_any x pa ca W p G m _ up f.next g k h hI (fun r hrr => hr r (by unfold readsS; rw [if_neg (by omega), if_neg (by omega), if_pos e]; exact hrr)) c1 _ hfn R hR (by omega) (by omega) f.i rfl (hi63 f x hat.ins) (by omega)).mono ?_
    rintro e' w' ⟨he, hgo⟩
    rw [put_put] at hgo
    refine Done1.yes he hgo ?_ (hkp _)
    rw [act_5 e]
    unfold frameOf argsR
    rw [hrn, List.length_map]
    rfl
  · have ha := hr x.a (by unfold readsS; rw [if_neg (by omega), if_pos (by omega)]; simp)
    rw [show fnOf x.op.toNat = 48 by rw [e]; rfl]
    refine (print_any x pa _ ca W p G m _ up f.next g k h ha (by show s.out.length < _; have := hok.ol; omega)).mono ?_
    rintro e' w' ⟨he, hgo⟩
    exact Done1.yes he hgo (by rw [act_6 e]; rfl) (by show s.kind ≠ 2; omega)
  · rw [show fnOf x.op.toNat = 49 by rw [e]; rfl]
    have hth : (put s (up ++ [f.next])).thr[s.cur]? = some (up ++ [f.next]) := by show (s.thr.set s.cur _)[s.cur]? = _; rw [List.getElem?_set_self hcur]
    refine (yield_any x pa _ ca W p G m (put s (up ++ [f.next])) _ h.at' (by show (s.thr.set s.cur _).length ≤ 4; rw [List.length_set]; exact hT) (live_pos hth (by simp)) (hmx _ (by simp; omega)) hok.cw).mono ?_
    rintro e' w' ⟨he, hgo⟩
    exact Done1.yes he hgo (act_7 e) (by show s.kind ≠ 2; omega)
  · rw [show fnOf x.op.toNat = 50 by rw [e]; rfl]
    refine (jmp_any x pa _ ca W p G m _ up f.next g k h (h89 (.inl e)).1).mono ?_
    rintro e' w' ⟨he, hgo⟩
    rw [put_put] at hgo
    exact Done1.yes he hgo (by rw [act_8 e]; rfl) (hkp _)
  · have ha := hr x.a (by unfold readsS; rw [if_neg (by omega), if_pos (by omega)]; simp)
    rw [show fnOf x.op.toNat = 51 by rw [e]; rfl]
    refine (br_any x pa _ ca W p G m _ up f.next g k h (h89 (.inr e)).1 (h89 (.inr e)).2.2.1 ha).mono ?_
    rintro e' w' ⟨he, hgo⟩
    rw [put_put] at hgo
    exact Done1.yes he hgo (by rw [act_9 e]; rfl) (hkp _)
  · have ha := hr x.a (by unfold readsS; rw [if_neg (by omega), if_pos (by omega)]; simp)
    rw [show fnOf x.op.toNat = 52 by rw [e]; rfl]
    rcases List.eq_nil_or_concat up with hu | ⟨us, gf, hu⟩
    · by_cases hc : s.cur = 0
      · refine (ret_main x pa _ ca W p G m _ up f.next g k h ha (by omega) hu hc).mono ?_
        rintro e' w' ⟨he, hgo⟩
        rw [put_put] at hgo
        refine Done1.yes he hgo ?_ (by show (1 : Int) ≠ 2; omega)
        rw [act_10 e]
        unfold retS
        rw [hu]
        simp only [List.getLast?_nil]
        rw [if_pos hc]
        rfl
      · obtain ⟨l0, h0, hn0⟩ := hok.main hk
        refine (ret_end x pa _ ca W p G m _ up f.next g k h ha (by omega) hu hc (by show (s.thr.set s.cur _).length ≤ 4; rw [List.length_set]; exact hT) ?_).mono ?_
        · rw [put_put]
          refine ⟨live_pos (i := 0) (l := l0) ?_ hn0, hmx [] (by simp), hok.cw⟩
          show (s.thr.set s.cur [])[0]? = _
          rw [List.getElem?_set_ne hc]; exact h0
        · rintro e' w' ⟨he, hgo⟩
          rw [put_put] at hgo
          refine Done1.yes he hgo ?_ (by show s.kind ≠ 2; omega)
          rw [act_10 e]
          unfold retS
          rw [hu]
          simp only [List.getLast?_nil]
          rw [if_neg hc]
    · rw [List.concat_eq_append] at hu
      obtain ⟨hgk, y, hy, hy5⟩ := hat.ups gf (by rw [hu]; simp)
      have hgs := stands hg hgk hy
      obtain ⟨fn', b', q1, q2, q3⟩ := insOf_some hy
      refine (ret_up x pa _ ca W p G m _ up f.next g k h ha (by omega) us gf hu fn' b' y ⟨q1, q2, q3⟩ (hgs.writes (by unfold writesB; rw [hy5]; rfl)) (hi63 gf y hy)).mono ?_
      rintro e' w' ⟨he, hgo⟩
      rw [retS_put] at hgo
      refine Done1.yes he hgo (act_10 e) ?_
      unfold retS
      rw [hu]
      simp only [List.getLast?_append, List.getLast?_singleton, Option.some_or]
      exact hkp _
end Go.Proofs.Ytdefooailcbnlaa
/- Walks of the package flat: does, one. -/
namespace Go.Proofs.Ytdefooailcbnlaa
open Go.RowKit
set_option linter.unusedVariables false
set_option linter.unusedSimpArgs false
/-- The table of functions, in a block. -/
def TabF (w : World) (g : Nat) : Prop := ∀ i : Nat, i ≤ 10 → w.cell? ⟨g, i, none⟩ = some (.func (.func (fnOf i)) #[] #[])
theorem TabF.keepo {S : Nat → Prop} {w w' : World} {g : Nat} (h : TabF w g) (o : Only S w w') (hg : ¬ S g) : TabF w' g := fun i hi => (o.cell (p := ⟨g, i, none⟩) (World.block_lt_of_cell? _ _ (h i hi)) hg).trans (h i hi)
def tabFs : Array Value := #[.func (.func 42) #[] #[], .func (.func 43) #[] #[], .func (.func 44) #[] #[], .func (.func 45) #[] #[], .func (.func 46) #[] #[], .func (.func 47) #[] #[], .func (.func 48) #[] #[], .func (.func 49) #[] #[], .func (.func 50) #[] #[], .func (.func 51) #[] #[], .func (.func 52) #[] #[]]
theorem TabF.of {w : World} {g : Nat} {t : TypeId} (h : VRow w g t tabFs.toList) : TabF w g := fun i hi => by
  have hc : i = 0 ∨ i = 1 ∨ i = 2 ∨ i = 3 ∨ i = 4 ∨ i = 5 ∨ i = 6 ∨ i = 7 ∨ i = 8 ∨ i = 9 ∨ i = 10 := by omega
  rcases hc with rfl | rfl | rfl | rfl | rfl | rfl | rfl | rfl | rfl | rfl | rfl <;> exact h.cell rfl
theorem enter_konst (args : Array Value) (w : World) : (callFunc 42 args).run Try.prog w = .ok (.enter 42 args) w := by kernel_rfl
theorem enter_alu (args : Array Value) (w : World) : (callFunc 43 args).run Try.prog w = .ok (.enter 43 args) w := by kernel_rfl
theorem enter_mov (args : Array Value) (w : World) : (callFunc 44 args).run Try.prog w = .ok (.enter 44 args) w := by kernel_rfl
theorem enter_load (args : Array Value) (w : World) : (callFunc 45 args).run Try.prog w = .ok (.enter 45 args) w := by kernel_rfl
theorem enter_store (args : Array Value) (w : World) : (callFunc 46 args).run Try.prog w = .ok (.enter 46 args) w := by kernel_rfl
theorem enter_call (args : Array Value) (w : World) : (callFunc 47 args).run Try.prog w = .ok (.enter 47 args) w := by kernel_rfl
theorem enter_print (args : Array Value) (w : World) : (callFunc 48 args).run Try.prog w = .ok (.enter 48 args) w := by kernel_rfl
theorem enter_yield (args : Array Value) (w : World) : (callFunc 49 args).run Try.prog w = .ok (.enter 49 args) w := by kernel_rfl
theorem enter_jmp (args : Array Value) (w : World) : (callFunc 50 args).run Try.prog w = .ok (.enter 50 args) w := by kernel_rfl
theorem enter_br (args : Array Value) (w : World) : (callFunc 51 args).run Try.prog w = .ok (.enter 51 args) w := by kernel_rfl
theorem enter_ret (args : Array Value) (w : World) : (callFunc 52 args).run Try.prog w = .ok (.enter 52 args) w := by kernel_rfl
theorem enter_fn (i : Nat) (hi : i ≤ 10) (args : Array Value) (w : World) : (callFunc (fnOf i) args).run Try.prog w = .ok (.enter (fnOf i) args) w := by
  have hc : i = 0 ∨ i = 1 ∨ i = 2 ∨ i = 3 ∨ i = 4 ∨ i = 5 ∨ i = 6 ∨ i = 7 ∨ i = 8 ∨ i = 9 ∨ i = 10 := by omega
  rcases hc with rfl | rfl | rfl | rfl | rfl | rfl | rfl | rfl | rfl | rfl | rfl
  · exact enter_konst args w
  · exact enter_alu args w
  · exact enter_mov args w
  · exact enter_load args w
  · exact enter_store args w
  · exact enter_call args w
  · exact enter_print args w
  · exact enter_yield args w
  · exact enter_jmp args w
  · exact enter_br args w
  · exact enter_ret args w
set_option maxRecDepth 100000 in
set_option maxHeartbeats 2000000 in
theorem does_any16 (w : World) : Calls Try.prog 29 #[] w fun e w' => e = .returned (.agg tabFs) ∧ Below w.heap.size w w' := by
  go_enter Try.func29, Try.ntmps29
  go_wp2_with fail
  exact bodyPost_ret (v := .agg tabFs) (by simp [results, Try.results29, go_sem, tabFs]; try rfl) rfl ⟨rfl, by go_grown⟩
set_option maxRecDepth 100000 in
set_option maxHeartbeats 4000000 in
/-- A step of a model that runs. -/
theorem mone_any {p : Prg} (hg : Good p) {N : Nat} {s : Mdl} (hok : Ok p N s) (hk : s.kind = 0) (hN : N < 1000000) (hxn : ∀ f x, insOf p f = some x → (0 ≤ x.n ∧ x.n < 4294967296) ∧ 0 ≤ x.op) (hi63 : ∀ (g : Fr) y, insOf p g = some y → g.i < 140737488355328)
    (w : World) (G : Gh) (m ab : Nat) (h : MdlAt w p G m s) (ht : TabF w ab) (hab : G.R ab = .none) :
    Calls Try.prog 31 #[.pointer (some ⟨m, 0, none⟩), .pointer (some ⟨ab, 0, none⟩)] w fun e w' => e = .returned (.tuple #[]) ∧ Goes w p G m (step p s) w' := by
  obtain ⟨up, f, x, hat, hn, hstep⟩ := hok.at' hg hk
  rw [hstep]
  obtain ⟨g, k, hop⟩ := OpIn.get h hat.thr
  obtain ⟨⟨m3, m4, m5, m6, m7, m8, m9⟩, _, _⟩ := h.cellsm
  have hcur := hok.cur
  have hcl : (s.cur : Int) < s.thr.length := by omega
  obtain ⟨g', cap, t0, t1, t2, t3⟩ := h.slices hat.thr
  have hgg : g' = g := by
    obtain ⟨cap2, hv2⟩ := hop.fr.v
    rw [List.length_append] at t3
    have := t3.symm.trans hv2
    simp at this
    exact this.1
  subst hgg
  have t0' : w.cell? ⟨G.tb, s.cur, none⟩ = some (.slice (some ⟨g', 0, none⟩) (up.length + 1) cap) := by have h := t0; rw [List.length_append] at h; exact h
  have HTOP := fhid (fun n => (top_some (w.drewN n) G.tb s.cur g' up.length cap (by omega) (show (w.drewN n).cell? _ = _ from t0')).mono (R' := fun e w'' => e = .returned (.pointer (some ⟨g', up.length * 4, none⟩)) ∧ ∃ q, w'' = w.drewN q) fun _ _ ⟨he, q, hq⟩ => ⟨he, n + q, by rw [hq]; simp [World.drewN, Nat.add_assoc]⟩)
  have HOP := fhid hop
  have HT := fhid ht
  have HAT := fhid hat
  clear h hop ht hat t0 t1 t2 t3 t0' m3 m4 m7 m8 m9
  go_enter Try.func31, Try.ntmps31
  go_wp2_with fail
  go_quiet ((go_at_call 32; exact HTOP.out _))
  have hd := below_drewN (Below.refl w.heap.size w) nq
  replace HOP := fhid (HOP.out.keepb hd)
  replace HT := fhid (HT.out.keepo (Only.of_below (S := fun _ => False) hd) id)
  have HW1 := fhid hd
  clear hd m5 m6 HTOP
  generalize w.drewN nq = W1 at *
  obtain ⟨_, _, _, c0, c1, c2, c3, fz, rg⟩ := HOP.out.fr
  obtain ⟨_, ⟨_, _, m2⟩, _⟩ := HOP.out.at'.cellsm
  have HZ := fhid (fun q v => (wiped_cell (w := W1) (F := fun k => G.R k = .fixed) (q := q) (v := v)))
  obtain ⟨_, pr2, _⟩ := HOP.out.at'.fix (wiped W1 fun k => G.R k = .fixed) (fun k hk => wiped_at hk)
  obtain ⟨fn, bk, q1, q2, q3⟩ := insOf_some HAT.out.ins
  have HI := fhid (fins_any W1 _ (fun q v h => (HZ.out q v h).2) m G.fv p.funcs m2 pr2 g' (up.length * 4) f.f f.b f.i c0 c1 c2 fn bk x q1 q2 q3)
  clear c0 c1 c2 c3 fz rg m2 pr2 q1 q2 q3
  go_wp2_with fail
  refine HI.out.mono ?_
  rintro e W2 ⟨pa, ca, rfl, hI, hb2⟩
  replace HOP := fhid (HOP.out.keepb hb2)
  replace HT := fhid (HT.out.keepo (Only.of_below (S := fun _ => False) hb2) id)
  replace HW1 := fhid (HW1.out.trans (hb2.mono HW1.out.size))
  have HIZ := fhid (fun (W9 : World) (h9 : ∀ k, k < W1.heap.size → G.R k = .fixed → W9.heap[k]? = W1.heap[k]?) => RowIn.keep (w' := W9) hI fun b o y _ hy => ⟨by
    obtain ⟨hf, hc⟩ := HZ.out ⟨b, o, none⟩ _ hy.1
    exact (World.cell?_of_block (a := ⟨b, o, none⟩) (h9 b (World.block_lt_of_cell? _ _ hc) hf)).trans hc, hy.2⟩)
  have hglt : g' < W2.heap.size := HOP.out.at'.lt g' (by rw [HOP.out.fr.rg]; simp)
  have hb12 := hb2
  obtain ⟨_, _, _, c0, c1, c2, c3, fz, rg⟩ := HOP.out.fr
  have f2 := fz (up.length * 4 + 2)
  have e1 : IntKind.i64.wrap ((f.i : Int) + 1) = ((f.i + 1 : Nat) : Int) := by rw [IntWalk.i64_in _ (by have := hi63 f x HAT.out.ins; omega)]; omega
  clear c0 c1 c3 fz rg hI hb2
  unfold Insx.agg
  go_wp2_with fail
  have hcast : ((f.i + 1 : Nat) : Int) = (f.i : Int) + 1 := by omega
  have hN3 := HOP.out.setI (f.i + 1)
  rw [hcast] at hN3
  have hown := HOP.out.own.1
  have HO3 := fhid (show Only G.own w (W2.setCell ⟨g', up.length * 4 + 2, none⟩ (.int .i64 ((f.i : Int) + 1))) from (Only.of_below HW1.out).setCell (p := ⟨g', up.length * 4 + 2, none⟩) hown _)
  have ho3 : Only (fun b => b = g') W2 (W2.setCell ⟨g', up.length * 4 + 2, none⟩ (.int .i64 ((f.i : Int) + 1))) := (Only.refl (fun b => b = g') W2).setCell (p := ⟨g', up.length * 4 + 2, none⟩) rfl _
  have habg : ab ≠ g' := fun e => by rw [e] at hab; rw [HOP.out.fr.rg] at hab; cases hab
  have HT3 := fhid (HT.out.keepo ho3 habg)
  have HI3 := fhid (show IntsIn (W2.setCell ⟨g', up.length * 4 + 2, none⟩ (.int .i64 ((f.i : Int) + 1))) (.slice pa x.args.length ca) x.args from HIZ.out _ (fun q hq hf => (ho3.block q (Nat.lt_of_lt_of_le hq hb12.size) (fun e => by
    have e' : q = g' := e
    rw [e', HOP.out.fr.rg] at hf; cases hf)).trans (hb12.block q hq)))
  have hsz : (W2.setCell ⟨g', up.length * 4 + 2, none⟩ (.int .i64 ((f.i : Int) + 1))).heap.size = W2.heap.size := by simp [World.setCell]
  have HN3 := fhid hN3
  clear hN3 ho3 HT HI HW1 HOP f2 e1 hcast c2 HIZ hb12 HZ
  generalize W2.setCell ⟨g', up.length * 4 + 2, none⟩ (.int .i64 ((f.i : Int) + 1)) = W3 at *
  rw [← hsz]
  have HB := fhid (IBox.new W3 x (.slice pa x.args.length ca) 44)
  have hb4 : Below W3.heap.size W3 (W3.alloc (.cells #[.int .u8 x.op, .int .i64 x.d, .int .i64 x.a, .int .i64 x.b, .int .u32 x.n, .int .i64 x.f, .slice pa x.args.length ca, .int .i64 x.l1, .int .i64 x.l2] 44)) := (Below.refl _ _).alloc (Nat.le_refl _) _
  have HN4 := fhid (HN3.out.keepb hb4)
  have HT4 := fhid (HT3.out.keepo (Only.of_below (S := fun _ => False) hb4) id)
  have HI4 := fhid (IntsIn.keep HI3.out hb4)
  have HO4 := fhid (HO3.out.fresh (Only.of_below (S := fun _ => False) hb4) (fun _ _ h => h.elim))
  clear hb4 HN3 HT3 HI3 HO3
  generalize W3.alloc (.cells #[.int .u8 x.op, .int .i64 x.d, .int .i64 x.a, .int .i64 x.b, .int .u32 x.n, .int .i64 x.f, .slice pa x.args.length ca, .int .i64 x.l1, .int .i64 x.l2] 44) = W4 at *
  generalize W3.heap.size = bx at *
  clear hsz
  obtain ⟨hxn1, hx0⟩ := hxn f x HAT.out.ins
  have hx10 : x.op ≤ 10 := by
    obtain ⟨_, _, _, _, _, _, _, _, hF⟩ := HAT.out.st.fn
    exact hF.1
  have tf := HT4.out x.op.toNat (by omega)
  have hx11 : x.op < 11 := by omega
  obtain ⟨_, b0, b1, b2, b3, b4, b5, b6, b7, b8⟩ := HB.out
  go_still_tail 9, (by kernel_rfl)
  change wpList _ _ _ _ _ W4.drew
  have hd := (show Below W4.heap.size W4 W4.drew from (Below.refl _ _).drew)
  have HN5 := fhid (HN4.out.keepb hd)
  have HI5 := fhid (IntsIn.keep HI4.out hd)
  have HO5 := fhid (HO4.out.drew)
  clear hd b0 b1 b2 b3 b4 b5 b6 b7 b8 tf HN4 HT4 HI4 HO4 HB
  generalize W4.drew = W5 at *
  have HD := fhid (disp_any hg hok hk HAT.out hn hN hxn1 hx0 hi63 W5 G m g' k HN5.out pa ca HI5.out)
  go_wp2_with fail
  rw [enter_fn x.op.toNat (by omega) _ W5, Oper.upon_enter]
  refine HD.out.mono ?_
  rintro e w6 ⟨rfl, hcs⟩
  rcases hcs with ⟨⟨G6, h6, o6, r6⟩, hk2⟩ | ⟨why, he, h1, h2⟩
  · obtain ⟨⟨m3, m4, m5, m6, m7, m8, m9⟩, _, _⟩ := h6.cellsm
    have hkb : ((actS p s up f x).kind == 2) = false := by simpa using hk2
    have HF := fhid (And.intro h6 (And.intro o6 r6))
    clear h6 o6 r6 m3 m4 m5 m6 m7 m9 hk2
    go_wp2_with fail
    go_returns
    exact ⟨rfl, G6, HF.out.1, HO5.out.fresh HF.out.2.1 (fun _ _ h => h), fun q hq => HF.out.2.2 q (Nat.lt_of_lt_of_le hq HO5.out.size)⟩
  · obtain ⟨⟨m3, m4, m5, m6, m7, m8, m9⟩, _, _⟩ := h1.cellsm
    have hth : (fault (put s (up ++ [f.next])) why).thr[(fault (put s (up ++ [f.next])) why).cur]? = some (up ++ [f.next]) := by show (s.thr.set s.cur _)[s.cur]? = _; rw [List.getElem?_set_self hcur]
    obtain ⟨g6, k6, hop6⟩ := OpIn.get h1 hth
    have hg6 : g6 = g' := by
      obtain ⟨ca6, hv6⟩ := hop6.fr.v
      obtain ⟨ca5, hv5⟩ := HN5.out.fr.v
      have h5 : G.vs[s.cur]? = some (.slice (some ⟨g', 0, none⟩) (up.length + 1) ca5) := hv5
      have h6 : G.vs[s.cur]? = some (.slice (some ⟨g6, 0, none⟩) (up.length + 1) ca6) := hv6
      rw [h5] at h6
      cases h6; rfl
    subst hg6
    have m8' : w6.cell? ⟨m, 8, none⟩ = some (.int .u8 2) := m8
    obtain ⟨_, _, _, c0, c1, c2, c3, fz, rg⟩ := hop6.fr
    have c2' : w6.cell? ⟨g6, up.length * 4 + 2, none⟩ = some (.int .i64 ((f.i + 1 : Nat) : Int)) := c2
    have f2 := fz (up.length * 4 + 2)
    have e1 : IntKind.i64.wrap (((f.i + 1 : Nat) : Int) - 1) = (f.i : Int) := by rw [IntWalk.i64_in _ (by have := hi63 f x HAT.out.ins; omega)]; omega
    have e1' : IntKind.i64.wrap (f.i : Int) = (f.i : Int) := IntWalk.i64_in _ (by have := hi63 f x HAT.out.ins; omega)
    have HP6 := fhid hop6
    clear m3 m4 m5 m6 m7 m8 m9 c0 c1 c2 c3 fz rg hop6 h1
    go_wp2_with fail
    go_returns
    have h9 := (HP6.out.setI f.i).at'
    have hst : put (fault (put s (up ++ [f.next])) why) (up ++ [{ f.next with i := f.i }]) = fault s why := by
      unfold put fault
      simp only [List.set_set]
      have : s.thr.set s.cur (up ++ [{ f.next with i := f.i }]) = s.thr := by
        obtain ⟨h', e'⟩ := List.getElem?_eq_some_iff.1 HAT.out.thr
        rw [show ({ f.next with i := f.i } : Fr) = f from rfl, ← e']
        exact List.set_getElem_self h'
      rw [this]
    rw [hst] at h9
    rw [he]
    exact ⟨rfl, Goes.same h9 ((HO5.out.fresh h2 (fun _ _ h => h)).setCell (p := ⟨g6, up.length * 4 + 2, none⟩) HP6.out.own.1 _)⟩
end Go.Proofs.Ytdefooailcbnlaa
/- Walks of the package flat: Step, Run, Outcome, Left. -/
namespace Go.Proofs.Ytdefooailcbnlaa
open Go.RowKit
set_option linter.unusedVariables false
set_option linter.unusedSimpArgs false
theorem mrun_ok {p : Prg} (hg : Good p) (hxn : ∀ f x, insOf p f = some x → (0 ≤ x.n ∧ x.n < 4294967296) ∧ 0 ≤ x.op) {N : Nat} {s : Mdl} (h : Ok p N s) : ∀ k, Ok p (N + k) (run p k s) := by
  intro k
  induction k with
  | zero => exact h
  | succ k ih =>
    rw [run_succ]
    split
    · rename_i hk
      exact mstep_ok hg (fun f x hx => (hxn f x hx).1) ih hk
    · exact ih.mono (by omega)
theorem mrun_same {p : Prg} {s : Mdl} {k F : Nat} (hk : k ≤ F) (hr : ran p k s = k) (h : (run p k s).kind ≠ 0) : run p F s = run p k s ∧ ran p F s = k := by
  obtain ⟨d, rfl⟩ : ∃ d, F = k + d := ⟨F - k, by omega⟩
  rw [run_add, ran_add, (run_stop p d _ h).1, (run_stop p d _ h).2, hr]
  exact ⟨rfl, by omega⟩
/-- What is known of a program's instructions. -/
structure PrgOk (p : Prg) : Prop where
  good : Good p
  words : ∀ f x, insOf p f = some x → (0 ≤ x.n ∧ x.n < 4294967296) ∧ 0 ≤ x.op
  i63 : ∀ (g : Fr) y, insOf p g = some y → g.i < 140737488355328
theorem tab_new (w : World) (t : TypeId) : TabF (w.alloc (.cells tabFs t)) w.heap.size := TabF.of (vrow_new w tabFs t)
set_option maxRecDepth 100000 in
set_option maxHeartbeats 2000000 in
theorem mstep_any {p : Prg} (hp : PrgOk p) {N : Nat} {s : Mdl} (hok : Ok p N s) (hN : N < 1000000) (w : World) (G : Gh) (m : Nat) (h : MdlAt w p G m s) :
    Calls Try.prog 16 #[.pointer (some ⟨m, 0, none⟩)] w fun e w' => e = .returned (.bool (decide (s.kind = 0))) ∧ Goes w p G m (if s.kind = 0 then step p s else s) w' := by
  have hth : 0 < s.thr.length := by have := hok.tl; have := hp.good.nt; omega
  have HR := fhid (runs_any w p G m s h hth)
  have H := fhid h
  clear h
  by_cases hk : s.kind = 0
  · rw [decide_eq_true hk] at HR ⊢
    rw [if_pos hk]
    go_enter Try.func16, Try.ntmps16
    go_wp2_with fail
    refine HR.out.mono ?_
    rintro e w' ⟨rfl, rfl⟩
    go_wp2_with fail
    refine (does_any16 w).mono ?_
    rintro e w1 ⟨rfl, hb⟩
    have hb2 : Below w.heap.size w (w1.alloc (.cells tabFs 87)) := hb.alloc hb.size _
    have HT := fhid (tab_new w1 87)
    have HB := fhid hb2
    have hab : H.out.rm = H.out.rm := rfl
    have HM := fhid (H.out.keepb hb2)
    have hr : G.R w1.heap.size = .none := by
      cases hq : G.R w1.heap.size with
      | none => rfl
      | _ => exact absurd (H.out.lt _ (by rw [hq]; simp)) (by have := hb.size; omega)
    have HO := fhid (mone_any hp.good hok hk hN hp.words hp.i63 _ G m w1.heap.size HM.out HT.out hr)
    clear hb hb2 hr hab
    unfold tabFs at HO ⊢
    go_wp2_with fail
    refine HO.out.mono ?_
    rintro e w9 ⟨rfl, hgo⟩
    go_wp2_with fail
    go_ret
    exact ⟨rfl, hgo.from HB.out⟩
  · rw [decide_eq_false hk] at HR ⊢
    rw [if_neg hk]
    go_enter Try.func16, Try.ntmps16
    go_wp2_with fail
    refine HR.out.mono ?_
    rintro e w' ⟨rfl, rfl⟩
    go_wp2_with fail
    go_ret
    exact ⟨rfl, Goes.same H.out (Only.refl _ _)⟩
set_option maxRecDepth 100000 in
set_option maxHeartbeats 4000000 in
theorem mrun_any {p : Prg} (hp : PrgOk p) {N : Nat} {s : Mdl} (hok : Ok p N s) (F : Nat) (hN : N + F < 1000000) (w : World) (G : Gh) (m : Nat) (h : MdlAt w p G m s) :
    Calls Try.prog 13 #[.pointer (some ⟨m, 0, none⟩), .int .i64 F] w fun e w' => e = .returned (.int .i64 (ran p F s)) ∧ Goes w p G m (run p F s) w' := by
  have hth : 0 < s.thr.length := by have := hok.tl; have := hp.good.nt; omega
  have H := fhid h
  clear h
  go_enter Try.func13, Try.ntmps13
  go_wp2_with fail
  refine (does_any16 w).mono ?_
  rintro e w1 ⟨rfl, hb⟩
  have hb2 : Below w.heap.size w (w1.alloc (.cells tabFs 87)) := hb.alloc hb.size _
  have HT := fhid (tab_new w1 87)
  have HB := fhid hb2
  have HM := fhid (H.out.keepb hb2)
  have hr : G.R w1.heap.size = .none := by
    cases hq : G.R w1.heap.size with
    | none => rfl
    | _ => exact absurd (H.out.lt _ (by rw [hq]; simp)) (by have := hb.size; omega)
  have HR := fhid hr
  have hlt : w1.heap.size < (w1.alloc (.cells tabFs 87)).heap.size := by simp
  have HLT := fhid hlt
  clear hb hb2 hr hlt
  unfold tabFs at HT HB HM HLT ⊢
  go_wp2_with fail
  generalize w1.alloc (.cells #[.func (.func 42) #[] #[], .func (.func 43) #[] #[], .func (.func 44) #[] #[], .func (.func 45) #[] #[], .func (.func 46) #[] #[], .func (.func 47) #[] #[], .func (.func 48) #[] #[], .func (.func 49) #[] #[], .func (.func 50) #[] #[], .func (.func 51) #[] #[], .func (.func 52) #[] #[]] 87) = W at *
  generalize w1.heap.size = ab at *
  go_loopw [6] (fun i wr => ∃ k : Nat, k ≤ F ∧ i = .int .i64 k ∧ ran p k s = k ∧ Goes W p G m (run p k s) wr) (fun i _ => F - (intOf i).toNat)
  case atStart => exact ⟨0, Nat.zero_le _, rfl, rfl, Goes.same HM.out (Only.refl _ _)⟩
  case round =>
    obtain ⟨k, hk, rfl, hrk, G1, h1, o1, r1⟩ := hrel
    have HRK := fhid hrk
    have H1 := fhid (And.intro h1 (And.intro o1 r1))
    have hokk := mrun_ok hp.good hp.words hok k
    have HOK := fhid hokk
    have hthk : 0 < (run p k s).thr.length := by rw [hokk.tl]; exact hp.good.nt.1
    clear hrk h1 o1 r1 hokk
    by_cases hlt : k < F
    · have hkF : (k : Int) < F := by omega
      have hrc := runs_any wr p G1 m (run p k s) H1.out.1 hthk
      by_cases hkd : (run p k s).kind = 0
      · rw [decide_eq_true hkd] at hrc
        have HRC := fhid hrc
        have hrab : G1.R ab = .none := by rw [H1.out.2.2 ab HLT.out]; exact HR.out
        have hgab : ¬ G.own ab := fun hh => hh.1 HR.out
        have HO := fhid (mone_any hp.good HOK.out hkd (by omega) hp.words hp.i63 wr G1 m ab H1.out.1 (HT.out.keepo H1.out.2.1 hgab) hrab)
        have hs1 : run p (k + 1) s = step p (run p k s) := by rw [run_succ, if_pos hkd]
        have hs2 : ran p (k + 1) s = k + 1 := by rw [ran_succ, if_pos hkd, HRK.out]
        have HS := fhid (And.intro hs1 hs2)
        have e1 : IntKind.i64.wrap ((k : Int) + 1) = ((k + 1 : Nat) : Int) := by rw [IntWalk.i64_in _ (by omega)]; omega
        clear hrc hrab hgab hs1 hs2 hkd hthk
        go_wp2_with fail
        refine HRC.out.mono ?_
        rintro e w' ⟨rfl, rfl⟩
        go_wp2_with fail
        refine HO.out.mono ?_
        rintro e w9 ⟨rfl, hgo⟩
        have HGO := fhid hgo
        clear hgo
        go_wp2_with fail
        refine ⟨⟨k + 1, by omega, by go_num, HS.out.2, ?_⟩, by simp [intOf]; omega⟩
        rw [HS.out.1]
        obtain ⟨G9, h9, o9, r9⟩ := HGO.out
        exact ⟨G9, h9, H1.out.2.1.fresh o9 (fun i hi hh => by unfold Gh.own at hh ⊢; rw [H1.out.2.2 i hi] at hh; exact hh), fun q hq => (r9 q (Nat.lt_of_lt_of_le hq H1.out.2.1.size)).trans (H1.out.2.2 q hq)⟩
      · rw [decide_eq_false hkd] at hrc
        have HRC := fhid hrc
        have HE := fhid (mrun_same hk HRK.out hkd)
        clear hrc hkd hthk
        go_wp2_with fail
        refine HRC.out.mono ?_
        rintro e w' ⟨rfl, rfl⟩
        go_wp2_with fail
        go_ret
        rw [HE.out.1, HE.out.2]
        exact ⟨rfl, Goes.from HB.out ⟨G1, H1.out⟩⟩
    · obtain rfl : k = F := by omega
      clear hthk
      go_wp2_with fail
      go_ret
      rw [HRK.out]
      exact ⟨rfl, Goes.from HB.out ⟨G1, H1.out⟩⟩
end Go.Proofs.Ytdefooailcbnlaa
/- Walks of the package flat: Outcome, Left; slices.Clone at words. -/
namespace Go.Proofs.Ytdefooailcbnlaa
open Go.RowKit
set_option linter.unusedVariables false
set_option linter.unusedSimpArgs false
theorem u32s_one (l : List Int) : ∀ u ∈ u32s l, u.oneCell' = true := by
  intro u hu
  obtain ⟨x, _, rfl⟩ := List.mem_map.1 hu
  rfl
/-- Words, cloned. -/
theorem uclone_any (w : World) (v : Value) (l : List Int) (h : Reads32 w v l) (hl : l.length ≤ 1048576) (hnil : ∀ c n, v = .slice none n c → c = 0) : Calls Try.prog 27 #[v] w fun e w' => ∃ v', e = .returned v' ∧ w'.ownsRow w.heap.size 31 1 v' l.length (u32s l) ∧ Below w.heap.size w w' := by
  obtain ⟨i0, hi, hz0, hz1, hz2⟩ := info_parts info_u32
  obtain ⟨b, o, p, c, rfl, hlm, hp, hc⟩ := h.shape
  have q22 : ∀ (w : World) (a : Option Addr) (n c n' c' : Nat), (binOp .eql 26 (.slice a n c) (.slice none n' c')).run Try.prog w = .ok (.bool a.isNone) w := fun w a n c n' c' => Lib.run_eql_slice_nil w _ _ a n c n' c' Try.underlying26
  have HC := fhid (And.intro hp hc)
  clear hp hc h
  cases p with
  | none =>
    have h0 : l = [] := by
      rcases Nat.eq_zero_or_pos l.length with h | h
      · exact List.eq_nil_of_length_eq_zero h
      · have := HC.out.1 h; cases this
    subst h0
    obtain rfl := hnil c _ rfl
    clear HC hnil
    have HZ := fhid (World.ownsRow_nil w w.heap.size 31 1)
    go_enter Try.func27, Try.ntmps27
    go_wp2
    go_ret
    exact ⟨_, rfl, HZ.out, Below.refl _ _⟩
  | some a =>
    have hcell : ∀ (j : Nat) u, (u32s l)[j]? = some u → w.cell? (a.add j) = some u := by
      intro j u hu
      have hj : j < l.length := by
        have := (List.getElem?_eq_some_iff.1 hu).1
        simpa [u32s] using this
      have := HC.out.1 (by omega)
      cases this
      rw [words_at hj] at hu
      cases hu
      have e : (⟨b, o, none⟩ : Addr).add j = ⟨b, o + j, none⟩ := by unfold Addr.add; split <;> simp [*]
      rw [e]; exact HC.out.2 j hj
    have HCl := fhid hcell
    clear hcell HC hnil
    go_enter Try.func27, Try.ntmps27
    go_wp2_with (at_builtin; refine wpList_append_own _ rfl _ _ 26 rfl w.heap.size 31 i0 _ 1 4 Try.underlying26 hi hz0 hz1 hz2 rfl (by decide) (.slice (some ⟨w.heap.size, 0, none⟩) 0 0) _ _ rfl (World.ownsRow_made w #[] 0 (Nat.le_refl _) (Nat.zero_le _) (by simp)) a l.length c (u32s l) rfl (by simp [u32s]) (fun j u hj => by rw [World.cell?_alloc_lt]; exact HCl.out j u hj; exact World.block_lt_of_cell? _ _ (HCl.out j u hj)) (u32s_one l) (by unfold maxLen; omega) (by omega) (by simp) ?_; intro v' w1 hown hgrow hnil; rw [Nat.zero_add, List.nil_append] at hown)
    go_wp2
    go_ret
    exact ⟨v', rfl, hown, ((Below.refl _ w).alloc (Nat.le_refl _) _).grown hgrow (by simp) (by intro k hk; simp [Value.ownBlock] at hk; omega)⟩
theorem left_nil (w : World) : Calls Try.prog 15 #[.pointer none] w fun e w' => e = .returned (.int .i64 0) ∧ w = w' := by
  go_enter Try.func15, Try.ntmps15
  go_wp2_with fail
  go_ret
  exact ⟨rfl, rfl⟩
theorem left_any (w : World) (p : Prg) (G : Gh) (m : Nat) (s : Mdl) (h : MdlAt w p G m s) : Calls Try.prog 15 #[.pointer (some ⟨m, 0, none⟩)] w fun e w' => e = .returned (.int .i64 s.ch.length) ∧ w = w' := by
  obtain ⟨⟨c3, c4, c5, c6, c7, c8, c9⟩, _, fz⟩ := h.cellsm
  obtain ⟨_, _, hch⟩ := h.prog
  obtain ⟨cb, co, cp, cc, hcv, _, _, _⟩ := hch.1.shape
  rw [hcv] at c7
  clear h hch fz
  go_enter Try.func15, Try.ntmps15
  go_wp2_with fail
  go_ret
  exact ⟨rfl, rfl⟩
/-- An outcome, as a value. -/
def OutV (w : World) (v : Value) (out : List Int) (kind stop : Int) (heap : List Int) : Prop := ∃ po no co ph nh ch, v = .agg #[.slice po no co, .int .u8 kind, .int .u32 stop, .slice ph nh ch] ∧ Reads32 w (.slice po no co) out ∧ Reads32 w (.slice ph nh ch) heap
theorem OutV.keep {w w' : World} {v : Value} {out heap : List Int} {kind stop : Int} (h : OutV w v out kind stop heap) (hb : Below w.heap.size w w') : OutV w' v out kind stop heap := by
  obtain ⟨po, no, co, ph, nh, ch, rfl, h1, h2⟩ := h
  exact ⟨po, no, co, ph, nh, ch, rfl, h1.keepb hb, h2.keepb hb⟩
/-- An outcome in blocks from lo on. -/
def OutS (lo : Nat) (w : World) (v : Value) (out : List Int) (kind stop : Int) (heap : List Int) : Prop := (∀ W : World, Only (fun k => k < lo) w W → OutV W v out kind stop heap) ∧ ∀ po no co a b c, v = .agg #[.slice po no co, a, b, c] → no ≤ co ∧ (po = none → no = 0 ∧ co = 0)
theorem own_cap {w : World} {base n size : Nat} {t : TypeId} {xs : List Value} {p : Option Addr} {m c : Nat} (h : w.ownsRow base t size (.slice p m c) n xs) : m ≤ c ∧ (p = none → m = 0 ∧ c = 0) := by
  rcases h.2 with ⟨h1, h2⟩ | ⟨g, cap, cur, h1, h2, h3, h4, _⟩
  · cases h1; exact ⟨Nat.le_refl _, fun _ => ⟨rfl, rfl⟩⟩
  · cases h1; exact ⟨h4, fun e => by cases e⟩
theorem OutS.here {lo : Nat} {w : World} {v : Value} {out heap : List Int} {kind stop : Int} (h : OutS lo w v out kind stop heap) : OutV w v out kind stop heap := h.1 w (Only.refl _ w)
set_option maxRecDepth 100000 in
set_option maxHeartbeats 4000000 in
theorem outcome_any (w : World) (p : Prg) (G : Gh) (m : Nat) (s : Mdl) (h : MdlAt w p G m s) (ho : s.out.length ≤ 1048576) (hh : s.heap.length ≤ 1024) : Calls Try.prog 14 #[.pointer (some ⟨m, 0, none⟩)] w fun e w' => ∃ v, e = .returned v ∧ OutS w.heap.size w' v s.out s.kind s.v s.heap ∧ Below w.heap.size w w' := by
  have hW : Below w.heap.size w (w.alloc (.cells #[.slice none 0 0, .int .u8 0, .int .u32 0, .slice none 0 0] 35)) := (Below.refl _ _).alloc (Nat.le_refl _) _
  have HZ := fhid (vrow_new w #[.slice none 0 0, .int .u8 0, .int .u32 0, .slice none 0 0] 35)
  have HM := fhid (h.keepb hW)
  have HW := fhid hW
  have hmw : m < w.heap.size := h.lt m (by rw [h.rm]; simp)
  clear h hW
  go_enter Try.func14, Try.ntmps14
  go_wp2_with fail
  generalize w.alloc (.cells #[.slice none 0 0, .int .u8 0, .int .u32 0, .slice none 0 0] 35) = W at *
  obtain ⟨⟨c3, c4, c5, c6, c7, c8, c9⟩, _, _⟩ := HM.out.cellsm
  have ro := Reads32.of_own (l := s.out) HM.out.out
  have hov : ∀ c n, G.outv = .slice none n c → c = 0 := fun c n e => by
    rcases HM.out.out.2 with ⟨h1, _⟩ | ⟨g, cap, cur, h1, _⟩
    · rw [h1] at e; cases e; rfl
    · rw [h1] at e; cases e
  have rh : Reads32 W (.slice (some ⟨G.hb, 0, none⟩) s.heap.length s.heap.length) s.heap := ⟨by unfold maxLen; omega, _, _, rfl, fun _ => ⟨G.hb, 0, rfl, fun k hk => by rw [Nat.zero_add]; exact HM.out.heap.cell (words_at hk)⟩⟩
  obtain ⟨pov, nov, cov, hpv⟩ := ro.shape'
  rw [hpv] at c4 ro hov
  have HC1 := fhid (fun (W' : World) (hb : Below W.heap.size W W') => uclone_any W' _ s.out (ro.keepb hb) ho hov)
  have HC2 := fhid (fun (W' : World) (hb : Below W.heap.size W W') => uclone_any W' _ s.heap (rh.keepb hb) (by omega) (fun c n e => by cases e))
  have HKS := fhid (show ∀ w', Below W.heap.size W w' → w'.cell? ⟨m, 3, none⟩ = some (.slice (some ⟨G.hb, 0, none⟩) s.heap.length s.heap.length) ∧ w'.cell? ⟨m, 4, none⟩ = some (.slice pov nov cov) ∧ w'.cell? ⟨m, 8, none⟩ = some (.int .u8 s.kind) ∧ w'.cell? ⟨m, 9, none⟩ = some (.int .u32 s.v) from fun w' hb => by
    obtain ⟨⟨d3, d4, d5, d6, d7, d8, d9⟩, _, _⟩ := (HM.out.keepb hb).cellsm
    rw [hpv] at d4
    exact ⟨d3, d4, d8, d9⟩)
  have hmz : ∀ i j : Nat, (⟨w.heap.size, i, none⟩ : Addr) ≠ ⟨m, j, none⟩ := fun i j e => by
    have e2 : w.heap.size = m := congrArg Addr.block e
    omega
  have HSS := fhid (fun (w' : World) (hb : Below W.heap.size W w') (u0 u1 u2 u3 : Value) => (show ∀ j v, w'.cell? ⟨m, j, none⟩ = some v → ((((w'.setCell ⟨w.heap.size, 0, none⟩ u0).setCell ⟨w.heap.size, 1, none⟩ u1).setCell ⟨w.heap.size, 2, none⟩ u2).setCell ⟨w.heap.size, 3, none⟩ u3).cell? ⟨m, j, none⟩ = some v from fun j v h => by
    rw [World.cell?_setCell_other _ _ _ _ (hmz _ _), World.cell?_setCell_other _ _ _ _ (hmz _ _), World.cell?_setCell_other _ _ _ _ (hmz _ _), World.cell?_setCell_other _ _ _ _ (hmz _ _)]; exact h))
  clear hmz
  have hle : W.heap.size ≤ W.heap.size := Nat.le_refl _
  have hd0 : Below W.heap.size W W.drew := (Below.refl _ _).drew
  have HF := fhid (fun (w' : World) (hb : Below W.heap.size W w') => (HZ.out.below hb))
  have hzl := HZ.out.lt
  have HZC := fhid (fun (w' : World) (hb : Below W.heap.size W w') => (show (w'.cell? ⟨w.heap.size, 0, none⟩ = some (.slice none 0 0) ∧ w'.cell? ⟨w.heap.size, 1, none⟩ = some (.int .u8 0) ∧ w'.cell? ⟨w.heap.size, 2, none⟩ = some (.int .u32 0) ∧ w'.cell? ⟨w.heap.size, 3, none⟩ = some (.slice none 0 0)) ∧ (w'.frozen? ⟨w.heap.size, 0, none⟩ = false ∧ w'.frozen? ⟨w.heap.size, 1, none⟩ = false ∧ w'.frozen? ⟨w.heap.size, 2, none⟩ = false ∧ w'.frozen? ⟨w.heap.size, 3, none⟩ = false) from
    have hz := HF.out w' hb
    ⟨⟨hz.cell (k := 0) rfl, hz.cell (k := 1) rfl, hz.cell (k := 2) rfl, hz.cell (k := 3) rfl⟩, hz.frozen 0, hz.frozen 1, hz.frozen 2, hz.frozen 3⟩))
  clear c3 c5 c6 c7 c4 c8 c9 ro rh hov hpv
  obtain ⟨c3, c4, c8, c9⟩ := HKS.out W (Below.refl _ _)
  go_region_held3 (fun w' => w'.cell? ⟨m, 3, none⟩ = some (.slice (some ⟨G.hb, 0, none⟩) s.heap.length s.heap.length) ∧ w'.cell? ⟨m, 4, none⟩ = some (.slice pov nov cov) ∧ w'.cell? ⟨m, 8, none⟩ = some (.int .u8 s.kind) ∧ w'.cell? ⟨m, 9, none⟩ = some (.int .u32 s.v)) (first | (refine HKS.out _ ?_; go_grown; done) | exact ⟨HSS.out _ hb4 _ _ _ _ _ _ (HKS.out _ hb4).1, HSS.out _ hb4 _ _ _ _ _ _ (HKS.out _ hb4).2.1, HSS.out _ hb4 _ _ _ _ _ _ (HKS.out _ hb4).2.2.1, HSS.out _ hb4 _ _ _ _ _ _ (HKS.out _ hb4).2.2.2⟩)
    (first
      | (go_at_call 27; (with_reducible refine (HC1.out _ ?hb).mono ?_); (case hb => exact hd0); rintro e W3 ⟨v3, rfl, ho3, hb30⟩; have hb3 : Below W.heap.size W W3 := hd0.trans hb30; have hle3 : W.heap.size ≤ W3.heap.size := hb3.size; obtain ⟨p3, c3', rfl, _⟩ := own_shape ho3)
      | (go_at_call 27; (with_reducible refine (HC2.out _ ?hb).mono ?_); (case hb => exact hb3); rintro e W4 ⟨v4, rfl, ho4, hb40⟩; have hb4 : Below W.heap.size W W4 := hb3.trans (hb40.mono hb3.size); have hle4 : W.heap.size ≤ W4.heap.size := hb4.size; obtain ⟨p4, c4', rfl, _⟩ := own_shape ho4; obtain ⟨⟨z0, z1, z2, z3⟩, y0, y1, y2, y3⟩ := HZC.out W4 hb4))
  all_goals
    have h9 := ((((HF.out W4 hb4).set (k := 0) (by simp) (.slice p3 s.out.length c3')).set (k := 1) (by simp) (.int .u8 s.kind)).set (k := 2) (by simp) (.int .u32 s.v)).set (k := 3) (by simp) (.slice p4 s.heap.length c4')
    simp only [List.set_cons_zero, List.set_cons_succ] at h9
    have o9 : Only (fun k => k = w.heap.size) W4 ((((W4.setCell ⟨w.heap.size, 0, none⟩ (.slice p3 s.out.length c3')).setCell ⟨w.heap.size, 1, none⟩ (.int .u8 s.kind)).setCell ⟨w.heap.size, 2, none⟩ (.int .u32 s.v)).setCell ⟨w.heap.size, 3, none⟩ (.slice p4 s.heap.length c4')) := ((((Only.refl (fun k => k = w.heap.size) W4).setCell (p := ⟨w.heap.size, 0, none⟩) rfl _).setCell (p := ⟨w.heap.size, 1, none⟩) rfl _).setCell (p := ⟨w.heap.size, 2, none⟩) rfl _).setCell (p := ⟨w.heap.size, 3, none⟩) rfl _
    generalize ((((W4.setCell ⟨w.heap.size, 0, none⟩ (.slice p3 s.out.length c3')).setCell ⟨w.heap.size, 1, none⟩ (.int .u8 s.kind)).setCell ⟨w.heap.size, 2, none⟩ (.int .u32 s.v)).setCell ⟨w.heap.size, 3, none⟩ (.slice p4 s.heap.length c4')) = W9 at h9 o9 ⊢
    have R3 := (((Reads32.of_own (l := s.out) ho3).keepb hb40).keepO o9 (fun k hk e => by have h1 := (ho3.lt k hk).1; have h2 : W.heap.size ≤ k := h1; omega))
    have R4 := ((Reads32.of_own (l := s.heap) ho4).keepO o9 (fun k hk e => by have h1 := (ho4.lt k hk).1; omega))
    have hb9 : Below w.heap.size w W9 := (HW.out.trans (hb4.mono HW.out.size)).trans (o9.below (Nat.le_trans HW.out.size hb4.size) (fun k hk e => by omega))
    have r0 := h9.cell (k := 0) rfl
    have r1 := h9.cell (k := 1) rfl
    have r2 := h9.cell (k := 2) rfl
    have r3 := h9.cell (k := 3) rfl
    have hws : w.heap.size ≤ W.heap.size := HW.out.size
    have HFIN := fhid (And.intro (fun (W' : World) (o : Only (fun k => k < w.heap.size) W9 W') => And.intro (R3.keepO o (fun k hk hl => by have h1 := (ho3.lt k hk).1; have h2 : W.heap.size ≤ k := h1; omega)) (R4.keepO o (fun k hk hl => by have h1 := (ho4.lt k hk).1; omega))) (And.intro hb9 (own_cap ho3)))
    clear R3 R4 hb9 h9 o9 HKS HSS HC1 HC2 HZC HF hb3 hb4 hb30 hb40 ho3 ho4 z0 z1 z2 z3 y0 y1 y2 y3 c3 c4 c8 c9
    go_wp2_with fail
    exact bodyPost_ret (v := .agg #[.slice p3 s.out.length c3', .int .u8 s.kind, .int .u32 s.v, .slice p4 s.heap.length c4']) (by simp [results, Try.results14, go_sem, r0, r1, r2, r3]; try rfl) rfl ⟨_, rfl, ⟨fun W' o => ⟨_, _, _, _, _, _, rfl, (HFIN.out.1 W' o).1, (HFIN.out.1 W' o).2⟩, fun _ _ _ _ _ _ e => by cases e; exact HFIN.out.2.2⟩, HFIN.out.2.1⟩
theorem outcome_nil (w : World) : Calls Try.prog 14 #[.pointer none] w fun e w' => ∃ v, e = .returned v ∧ OutV w' v [] 0 0 [] ∧ Below w.heap.size w w' := by
  go_enter Try.func14, Try.ntmps14
  go_wp2_with fail
  have hz : ∀ W : World, Reads32 W (.slice none 0 0) [] := fun W => ⟨by simp [maxLen], _, _, rfl, fun h => by simp at h⟩
  exact bodyPost_ret (v := .agg #[.slice none 0 0, .int .u8 0, .int .u32 0, .slice none 0 0]) (by simp [results, Try.results14, go_sem]; try rfl) rfl ⟨_, rfl, ⟨_, _, _, _, _, _, rfl, hz _, hz _⟩, by go_grown⟩
end Go.Proofs.Ytdefooailcbnlaa
/- Walks of muntinref16: SameWords, Same. -/
namespace Go.Proofs.Ytdefooailcbnlaa
open Go.RowKit
set_option linter.unusedVariables false
set_option linter.unusedSimpArgs false
theorem fret_val {a b : Value} (h : a = b) : Ending.returned a = .returned b := by rw [h]
set_option maxHeartbeats 1000000 in
theorem swords_any (w : World) (u v : Value) (a b : List Int) (hu : Reads32 w u a) (hv : Reads32 w v b) :
    Calls Try.prog 17 #[u, v] w fun e w' => e = .returned (.bool (decide (a = b))) ∧ Below w.heap.size w w' := by
  obtain ⟨ba, oa, pa, ca, rfl, la, qa, ha⟩ := hu.shape
  obtain ⟨bb, ob, pb, cb, rfl, lb, qb, hb⟩ := hv.shape
  unfold maxLen at la lb
  have QA := fhid (And.intro qa ha)
  have QB := fhid (And.intro qb hb)
  clear qa ha qb hb hu hv
  by_cases hl : a.length = b.length
  · have hneq : ((a.length : Int) != (b.length : Int)) = false := by simp [hl]
    have HL := fhid hl
    clear hl
    go_enter Try.func17, Try.ntmps17
    go_wp2_with fail
    go_loopw [5] (fun i wr => ∃ k : Nat, k ≤ a.length ∧ i = .int .i64 k ∧ a.take k = b.take k ∧ (∃ n, wr = w.drewN n)) (fun i _ => a.length - (intOf i).toNat)
    case atStart => exact ⟨0, Nat.zero_le _, rfl, rfl, 0, rfl⟩
    case round =>
      obtain ⟨k, hk, rfl, htk, n, rfl⟩ := hrel
      have HT := fhid htk
      clear htk
      by_cases hlt : k < a.length
      · have hlb : k < b.length := by rw [← HL.out]; exact hlt
        obtain rfl := QA.out.1 (by omega)
        obtain rfl := QB.out.1 (by omega)
        have c1 := QA.out.2 k hlt
        have c2 := QB.out.2 k hlb
        have hx : a.getD k 0 = a[k] := by simp [List.getD_eq_getElem?_getD, hlt]
        have hy : b.getD k 0 = b[k] := by simp [List.getD_eq_getElem?_getD, hlb]
        have t1 := List.take_succ_eq_append_getElem hlt
        have t2 := List.take_succ_eq_append_getElem hlb
        have h1 : (k : Int) < a.length := by omega
        have h2 : (k : Int) < b.length := by omega
        by_cases hxy : a.getD k 0 = b.getD k 0
        · have hab : a.take (k + 1) = b.take (k + 1) := by rw [t1, t2, HT.out, ← hx, ← hy, hxy]
          have HA := fhid hab
          rw [hxy] at c1
          clear hab t1 t2 hx hy hxy
          generalize b.getD k 0 = y at c1 c2
          go_wp2_with fail
          go_quiet (fail)
          go_wp2_with fail
          exact ⟨⟨k + 1, by omega, by go_num, HA.out, _, rfl⟩, by simp [intOf] <;> omega⟩
        · have hab : a ≠ b := fun e => hxy (by rw [e])
          have HA := fhid hab
          clear hab t1 t2 hx hy
          generalize b.getD k 0 = y at c2 hxy
          generalize a.getD k 0 = x at c1 hxy
          have hne : (x != y) = true := by simpa using hxy
          go_wp2_with fail
          go_quiet (fail)
          go_wp2_with fail
          go_ret
          exact ⟨fret_val (by rw [decide_eq_false HA.out]; rfl), below_drewN (below_drewN (Below.refl _ _) n) _⟩
      · obtain rfl : k = a.length := by omega
        have hab : a = b := by
          have h1 := HT.out
          rw [List.take_length, HL.out, List.take_length] at h1; exact h1
        have HA := fhid hab
        clear hab
        go_wp2_with fail
        go_ret
        exact ⟨fret_val (by rw [decide_eq_true HA.out]; rfl), below_drewN (Below.refl _ _) n⟩
  · have hneq : ((a.length : Int) != (b.length : Int)) = true := by simp; omega
    have hab : a ≠ b := fun e => hl (by rw [e])
    have HA := fhid hab
    clear hab hl
    go_enter Try.func17, Try.ntmps17
    go_wp2_with fail
    go_ret
    exact ⟨fret_val (by rw [decide_eq_false HA.out]; rfl), Below.refl _ _⟩
set_option maxHeartbeats 2000000 in
theorem osame_any (w : World) (u v : Value) (o1 o2 h1 h2 : List Int) (k1 v1 k2 v2 : Int) (hu : OutV w u o1 k1 v1 h1) (hv : OutV w v o2 k2 v2 h2) :
    Calls Try.prog 11 #[u, v] w fun e w' => e = .returned (.bool (decide (o1 = o2 ∧ (k1 = k2 ∧ v1 = v2) ∧ h1 = h2))) ∧ Below w.heap.size w w' := by
  obtain ⟨p1, n1, c1, q1, m1, d1, rfl, ro1, rh1⟩ := hu
  obtain ⟨p2, n2, c2, q2, m2, d2, rfl, ro2, rh2⟩ := hv
  have hb : Below w.heap.size w ((w.alloc (.cells #[.slice p1 n1 c1, .int .u8 k1, .int .u32 v1, .slice q1 m1 d1] 35)).alloc (.cells #[.slice p2 n2 c2, .int .u8 k2, .int .u32 v2, .slice q2 m2 d2] 35)) := ((Below.refl _ _).alloc (Nat.le_refl _) _).alloc (by simp) _
  have S1 := fhid (swords_any ((w.alloc (.cells #[.slice p1 n1 c1, .int .u8 k1, .int .u32 v1, .slice q1 m1 d1] 35)).alloc (.cells #[.slice p2 n2 c2, .int .u8 k2, .int .u32 v2, .slice q2 m2 d2] 35)) _ _ o1 o2 (ro1.keepb hb) (ro2.keepb hb))
  have HB := fhid hb
  have S2 := fhid (fun (W : World) (hW : Below ((w.alloc (.cells #[.slice p1 n1 c1, .int .u8 k1, .int .u32 v1, .slice q1 m1 d1] 35)).alloc (.cells #[.slice p2 n2 c2, .int .u8 k2, .int .u32 v2, .slice q2 m2 d2] 35)).heap.size ((w.alloc (.cells #[.slice p1 n1 c1, .int .u8 k1, .int .u32 v1, .slice q1 m1 d1] 35)).alloc (.cells #[.slice p2 n2 c2, .int .u8 k2, .int .u32 v2, .slice q2 m2 d2] 35)) W) => swords_any W _ _ h1 h2 ((rh1.keepb hb).keepb hW) ((rh2.keepb hb).keepb hW))
  have X1 := fhid ((vrow_new w #[.slice p1 n1 c1, .int .u8 k1, .int .u32 v1, .slice q1 m1 d1] 35).alloc (.cells #[.slice p2 n2 c2, .int .u8 k2, .int .u32 v2, .slice q2 m2 d2] 35))
  have X2 := vrow_new (w.alloc (.cells #[.slice p1 n1 c1, .int .u8 k1, .int .u32 v1, .slice q1 m1 d1] 35)) #[.slice p2 n2 c2, .int .u8 k2, .int .u32 v2, .slice q2 m2 d2] 35
  rw [World.size_alloc] at X2
  replace X2 := fhid X2
  clear ro1 rh1 ro2 rh2 hb
  go_enter Try.func11, Try.ntmps11
  go_wp2_with fail
  generalize (w.alloc (.cells #[.slice p1 n1 c1, .int .u8 k1, .int .u32 v1, .slice q1 m1 d1] 35)).alloc (.cells #[.slice p2 n2 c2, .int .u8 k2, .int .u32 v2, .slice q2 m2 d2] 35) = W at *
  refine S1.out.mono ?_
  rintro e W2 ⟨rfl, hb2⟩
  have hb2' := hb2
  have x0 := (X1.out.below hb2).cell (k := 0) rfl
  have x1 := (X1.out.below hb2).cell (k := 1) rfl
  have x2 := (X1.out.below hb2).cell (k := 2) rfl
  have x3 := (X1.out.below hb2).cell (k := 3) rfl
  have y0 := (X2.out.below hb2).cell (k := 0) rfl
  have y1 := (X2.out.below hb2).cell (k := 1) rfl
  have y2 := (X2.out.below hb2).cell (k := 2) rfl
  have y3 := (X2.out.below hb2).cell (k := 3) rfl
  have HB2 := fhid (HB.out.trans (hb2.mono HB.out.size))
  have S3 := fhid (S2.out W2 hb2)
  clear hb2 hb2' X1 X2 S1 S2
  by_cases ho : o1 = o2
  · have HO := fhid ho
    rw [decide_eq_true ho]
    clear ho
    by_cases hk : k1 = k2
    · by_cases hvv : v1 = v2
      · have HK := fhid (And.intro hk hvv)
        subst hk hvv
        go_wp2_with fail
        refine S3.out.mono ?_
        rintro e W3 ⟨rfl, hb3⟩
        go_wp2_with fail
        go_ret
        exact ⟨fret_val (by show Value.bool (decide (h1 = h2)) = Value.bool _; have hoo := HO.out; simp [hoo]), HB2.out.trans (hb3.mono HB2.out.size)⟩
      · have hvb : (v1 == v2) = false := by simpa using hvv
        have HK := fhid hvv
        clear hvv
        go_wp2_with fail
        go_ret
        exact ⟨fret_val (by show Value.bool false = Value.bool _; congr 1; exact (decide_eq_false (fun h => HK.out h.2.1.2)).symm), HB2.out⟩
    · have hkb : (k1 == k2) = false := by simpa using hk
      have HK := fhid hk
      clear hk
      go_wp2_with fail
      go_ret
      exact ⟨fret_val (by show Value.bool false = Value.bool _; congr 1; exact (decide_eq_false (fun h => HK.out h.2.1.1)).symm), HB2.out⟩
  · have HO := fhid ho
    rw [decide_eq_false ho]
    clear ho
    go_wp2_with fail
    go_ret
    exact ⟨fret_val (by show Value.bool false = Value.bool _; congr 1; exact (decide_eq_false (fun h => HO.out h.1)).symm), HB2.out⟩
end Go.Proofs.Ytdefooailcbnlaa
/- Models that stand still: Step, Run. -/
namespace Go.Proofs.Ytdefooailcbnlaa
open Go.RowKit
set_option linter.unusedVariables false
set_option linter.unusedSimpArgs false
theorem mstep_stop {p : Prg} {s : Mdl} (hth : 0 < s.thr.length) (hk : s.kind ≠ 0) (w : World) (G : Gh) (m : Nat) (h : MdlAt w p G m s) :
    Calls Try.prog 16 #[.pointer (some ⟨m, 0, none⟩)] w fun e w' => e = .returned (.bool false) ∧ w = w' := by
  have HR := fhid (runs_any w p G m s h hth)
  rw [decide_eq_false hk] at HR
  clear h hk
  go_enter Try.func16, Try.ntmps16
  go_wp2_with fail
  refine HR.out.mono ?_
  rintro e w' ⟨rfl, rfl⟩
  go_wp2_with fail
  go_ret
  exact ⟨rfl, rfl⟩
set_option maxRecDepth 100000 in
set_option maxHeartbeats 4000000 in
theorem mrun_stop {p : Prg} {s : Mdl} (hth : 0 < s.thr.length) (hk : s.kind ≠ 0) (F : Nat) (hF : 0 < F) (w : World) (G : Gh) (m : Nat) (h : MdlAt w p G m s) :
    Calls Try.prog 13 #[.pointer (some ⟨m, 0, none⟩), .int .i64 F] w fun e w' => e = .returned (.int .i64 0) ∧ Below w.heap.size w w' := by
  have H := fhid h
  have HK := fhid hk
  clear h hk
  go_enter Try.func13, Try.ntmps13
  go_wp2_with fail
  refine (does_any16 w).mono ?_
  rintro e w1 ⟨rfl, hb⟩
  have hb2 : Below w.heap.size w (w1.alloc (.cells tabFs 87)) := hb.alloc hb.size _
  have HT := fhid (tab_new w1 87)
  have HB := fhid hb2
  have HM := fhid (H.out.keepb hb2)
  have hr : G.R w1.heap.size = .none := by
    cases hq : G.R w1.heap.size with
    | none => rfl
    | _ => exact absurd (H.out.lt _ (by rw [hq]; simp)) (by have := hb.size; omega)
  have HR := fhid hr
  have hlt : w1.heap.size < (w1.alloc (.cells tabFs 87)).heap.size := by simp
  have HLT := fhid hlt
  clear hb hb2 hr hlt
  unfold tabFs at HT HB HM HLT ⊢
  go_wp2_with fail
  generalize w1.alloc (.cells #[.func (.func 42) #[] #[], .func (.func 43) #[] #[], .func (.func 44) #[] #[], .func (.func 45) #[] #[], .func (.func 46) #[] #[], .func (.func 47) #[] #[], .func (.func 48) #[] #[], .func (.func 49) #[] #[], .func (.func 50) #[] #[], .func (.func 51) #[] #[], .func (.func 52) #[] #[]] 87) = W at *
  generalize w1.heap.size = ab at *
  have hrc := runs_any W p G m s HM.out hth
  rw [decide_eq_false HK.out] at hrc
  have HRC := fhid hrc
  have h0F : (0 : Int) < F := by omega
  clear hrc
  go_loopw [6] (fun i wr => i = .int .i64 0 ∧ wr = W) (fun i _ => 0)
  case atStart => exact ⟨rfl, rfl⟩
  case round =>
    obtain ⟨rfl, rfl⟩ := hrel
    go_wp2_with fail
    refine HRC.out.mono ?_
    rintro e w' ⟨rfl, rfl⟩
    go_wp2_with fail
    go_ret
    exact ⟨rfl, HB.out⟩
end Go.Proofs.Ytdefooailcbnlaa
