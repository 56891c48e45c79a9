/- Several texts in one: WindEach, MachApart, MachUse, MachLoad, PsrRes, PsrRef, PsrRWin. -/
import Derived.Test.YtajholbcpmjhiaaGreatDoorH26
import Derived.Maps.AppendAt
set_option linter.unusedVariables false
set_option linter.unusedSimpArgs false
/- Walks of the package wind: what stores, or loads, a frame. -/
namespace Go.Proofs.YtajholbcpmjhiaaGreatDoor
open Go.RowKit Go.Shelf
attribute [local go_sem] Oper.semAt_some
theorem only_putObj (w : World) (g : Nat) (o : Obj) : Only (fun k => k = g) w (w.putObj g o) := ⟨rfl, rfl, rfl, by simp [World.putObj], fun k hk hne => World.putObj_heap_other hne⟩
theorem BsAt.only {W w w' : World} {pa : Nat} {S T : Nat → Prop} {s : Bs} (h : BsAt W w pa S s) (o : Only T w w') (hd : ∀ k, S k → ¬ T k) (hT : ∀ k, T k → W.heap.size ≤ k) : BsAt W w' pa S s :=
  ⟨h.lst.keep o hd, h.tab.keepO o hT, h.bel.trans (o.below h.bel.size (fun k hk hS => by have := hT k hS; omega))⟩
theorem row_cell {w : World} {k : Nat} {cs : Array Value} {t : TypeId} {fr : Nat × Nat} (h : w.heap[k]? = some (.cells cs t fr)) {j : Nat} {v : Value} (hj : cs[j]? = some v) : w.cell? ⟨k, j, none⟩ = some v := by
  simp [World.cell?, h, hj]
theorem row_frozen {w : World} {k : Nat} {cs : Array Value} {t : TypeId} (h : w.heap[k]? = some (.cells cs t (0, 0))) (j : Nat) : w.frozen? ⟨k, j, none⟩ = false := by
  simp [World.frozen?, h]
structure EcAt (W w : World) (pa : Nat) (S : Nat → Prop) (s : Bs) (op : Int) (lo : Obj) (k : Nat) (wr : World) : Prop where
  bs : ∃ S', BsAt W wr pa S' (s.each op k) ∧ ∀ i, S' i → S i ∨ w.heap.size + 5 ≤ i
  only : Only S w wr
  r0 : wr.heap[w.heap.size]? = some (.cells #[.pointer (some ⟨pa, 0, none⟩)] 64 (0, 0))
  r1 : wr.heap[w.heap.size + 1]? = some (.cells #[.int .u8 op] 5 (0, 0))
  r2 : wr.heap[w.heap.size + 2]? = some (.cells #[.int .i64 0] 31 (0, 0))
  d : wr.heap[w.heap.size + 3]? = some (.deferred (some []))
  l : wr.heap[w.heap.size + 4]? = some lo
  sl : ∀ i, S i → i < w.heap.size
  wl : W.heap.size ≤ w.heap.size
section
variable {W w wr w' : World} {pa : Nat} {S : Nat → Prop} {s : Bs} {op : Int} {lo : Obj} {k : Nat}
theorem EcAt.lt (h : EcAt W w pa S s op lo k wr) : w.heap.size + 5 ≤ wr.heap.size := by
  have := (Array.getElem?_eq_some_iff.1 h.l).1
  omega
theorem EcAt.goes {k' : Nat} (h : EcAt W w pa S s op lo k wr) {S' : Nat → Prop} (hr : ∀ i, S' i → S i ∨ w.heap.size + 5 ≤ i) (hg : BsGo W wr pa S' (s.each op k') w') : EcAt W w pa S s op lo k' w' := by
  obtain ⟨S2, h2, o2, r2⟩ := hg
  have hlt := h.lt
  have hno : ∀ i, w.heap.size ≤ i → i < w.heap.size + 5 → ¬ S' i := fun i h1 h2 h3 => by
    rcases hr i h3 with h4 | h4
    · have := h.sl i h4; omega
    · omega
  have hb : ∀ i, w.heap.size ≤ i → i < w.heap.size + 5 → w'.heap[i]? = wr.heap[i]? := fun i h1 h2 => o2.block i (by omega) (hno i h1 h2)
  refine ⟨⟨S2, h2, fun i hi => ?_⟩, h.only.fresh o2 (fun i hi hk => ?_), (hb _ (by omega) (by omega)).trans h.r0, (hb _ (by omega) (by omega)).trans h.r1, (hb _ (by omega) (by omega)).trans h.r2, (hb _ (by omega) (by omega)).trans h.d, (hb _ (by omega) (by omega)).trans h.l, h.sl, h.wl⟩
  · rcases r2 i hi with h3 | h3
    · exact hr i h3
    · exact .inr (by omega)
  · rcases hr i hk with h3 | h3
    · exact h3
    · omega
theorem EcAt.start (h : BsAt W w pa S s) (lo : Obj) : EcAt W w pa S s op lo 0 (((((w.alloc (.cells #[.pointer (some ⟨pa, 0, none⟩)] 64)).alloc (.cells #[.int .u8 op] 5)).alloc (.cells #[.int .i64 0] 31)).alloc (.deferred (some []))).alloc lo) := by
  have hb : Below w.heap.size w (((((w.alloc (.cells #[.pointer (some ⟨pa, 0, none⟩)] 64)).alloc (.cells #[.int .u8 op] 5)).alloc (.cells #[.int .i64 0] 31)).alloc (.deferred (some []))).alloc lo) :=
    (((((Below.refl _ w).alloc (Nat.le_refl _) _).alloc (by simp only [World.size_alloc]; omega) _).alloc (by simp only [World.size_alloc]; omega) _).alloc (by simp only [World.size_alloc]; omega) _).alloc (by simp only [World.size_alloc]; omega) _
  have n : ∀ (v : World) (o : Obj) (i : Nat), v.heap.size = i → (v.alloc o).heap[i]? = some o := fun v o i e => e ▸ World.alloc_heap_new v o
  have k : ∀ (v : World) (o : Obj) (i : Nat), i < v.heap.size → (v.alloc o).heap[i]? = v.heap[i]? := fun v o i e => Below.heap_alloc v o i e
  refine ⟨⟨S, h.keepb hb, fun i hi => .inl hi⟩, Only.of_below hb, ?_, ?_, ?_, ?_, ?_, fun i hi => (h.lst.lo i hi).2, h.bel.size⟩
  · rw [k _ _ _ (by simp only [World.size_alloc]; omega), k _ _ _ (by simp only [World.size_alloc]; omega), k _ _ _ (by simp only [World.size_alloc]; omega), k _ _ _ (by simp only [World.size_alloc]; omega), n _ _ _ rfl]
  · rw [k _ _ _ (by simp only [World.size_alloc]; omega), k _ _ _ (by simp only [World.size_alloc]; omega), k _ _ _ (by simp only [World.size_alloc]; omega), n _ _ _ (by simp only [World.size_alloc])]
  · rw [k _ _ _ (by simp only [World.size_alloc]; omega), k _ _ _ (by simp only [World.size_alloc]; omega), n _ _ _ (by simp only [World.size_alloc])]
  · rw [k _ _ _ (by simp only [World.size_alloc]; omega), n _ _ _ (by simp only [World.size_alloc])]
  · rw [n _ _ _ (by simp only [World.size_alloc])]
theorem EcAt.put (h : EcAt W w pa S s op lo k wr) (lo' : Obj) : EcAt W w pa S s op lo' k (wr.putObj (w.heap.size + 4) lo') := by
  obtain ⟨S', hs, hr⟩ := h.bs
  have hlt := h.lt
  have o := only_putObj wr (w.heap.size + 4) lo'
  have hwl := h.wl
  have hb : ∀ i, i ≠ w.heap.size + 4 → (wr.putObj (w.heap.size + 4) lo').heap[i]? = wr.heap[i]? := fun i hi => World.putObj_heap_other hi
  refine ⟨⟨S', hs.only o (fun i hi e => ?_) (fun i e => by rw [e]; omega), hr⟩, h.only.fresh o (fun i hi e => by omega), (hb _ (by omega)).trans h.r0, (hb _ (by omega)).trans h.r1, (hb _ (by omega)).trans h.r2, (hb _ (by omega)).trans h.d, World.putObj_heap_same (by omega), h.sl, h.wl⟩
  subst e
  rcases hr _ hi with h3 | h3
  · have := h.sl _ h3; omega
  · omega
theorem EcAt.store (h : EcAt W w pa S s op lo k wr) : EcAt W w pa S s op lo k (wr.setCell ⟨w.heap.size + 2, 0, none⟩ (.int .i64 0)) := by
  obtain ⟨S', hs, hr⟩ := h.bs
  have hlt := h.lt
  have hwl := h.wl
  have o : Only (fun k => k = w.heap.size + 2) wr (wr.setCell ⟨w.heap.size + 2, 0, none⟩ (.int .i64 0)) := (Only.refl (fun k => k = w.heap.size + 2) wr).setCell (p := ⟨w.heap.size + 2, 0, none⟩) rfl _
  have hb : ∀ i, i < wr.heap.size → i ≠ w.heap.size + 2 → (wr.setCell ⟨w.heap.size + 2, 0, none⟩ (.int .i64 0)).heap[i]? = wr.heap[i]? := fun i hl hi => o.block i hl hi
  refine ⟨⟨S', hs.only o (fun i hi e => ?_) (fun i e => by rw [e]; omega), hr⟩, h.only.fresh o (fun i hi e => by omega), (hb _ (by omega) (by omega)).trans h.r0, (hb _ (by omega) (by omega)).trans h.r1, ?_, (hb _ (by omega) (by omega)).trans h.d, (hb _ (by omega) (by omega)).trans h.l, h.sl, h.wl⟩
  · subst e
    rcases hr _ hi with h3 | h3
    · have := h.sl _ h3; omega
    · omega
  · have h2 := h.r2
    simp only [World.setCell, Array.getElem?_modify, h2]
    simp
theorem EcAt.fin (h : EcAt W w pa S s op lo k wr) (o' : Obj) : BsGo W w pa S (s.each op k) (wr.putObj (w.heap.size + 3) o') := by
  obtain ⟨S', hs, hr⟩ := h.bs
  have hwl := h.wl
  have o := only_putObj wr (w.heap.size + 3) o'
  refine ⟨S', hs.only o (fun i hi e => ?_) (fun i e => by rw [e]; omega), h.only.fresh o (fun i hi e => by omega), fun i hi => (hr i hi).imp id (fun h2 => by omega)⟩
  subst e
  rcases hr _ hi with h3 | h3
  · have := h.sl _ h3; omega
  · omega
end
theorem frame_any (w : World) : Calls Tryz.prog 208 #[] w fun e w' => e = .returned (.func (.func 230) #[] #[]) ∧ w = w' := by
  go_enter Tryz.func208, Tryz.ntmps208
  go_wp2
  go_ret
  exact ⟨rfl, rfl⟩
set_option maxRecDepth 100000 in
set_option maxHeartbeats 4000000 in
/-- The registers of a frame, one by one. -/
theorem frame_calls (n : Nat) (hn : 1 ≤ n) (l : Nat) (J : Nat → World → Prop)
    (hY : ∀ k W1, k < 16 → J k W1 → YieldAt Fence.wide (n - 1) Tryz.prog l #[.int .u8 ((k : Int) + 16), .int .i32 (4 * (k : Int))] W1 fun e W' => e = .returned (.bool true) ∧ J (k + 1) W')
    (W : World) (h0 : J 0 W) :
    CallsIn Fence.wide n Tryz.prog 230 #[.func (.yield l) #[] #[]] W fun e W' => (∃ v, e = .returned v) ∧ J 16 W' := by
  refine callsIn_of_wp Tryz.func230 rfl trivial ?_ rfl
  simp only [Tryz.ntmps230, List.size_toArray, List.length_cons, List.length_nil, Nat.reduceAdd, Nat.reduceSub, Array.replicate_succ, Array.replicate_zero, List.push_toArray, List.append_toArray, List.nil_append, List.cons_append]
  gi_wp2
  gi_loopw [2] (fun i wr => ∃ k : Nat, k ≤ 16 ∧ i = .int .u8 ((k : Int) + 16) ∧ Hid (J k wr)) (fun i _ => 32 - (intOf i).toNat)
  case atStart => exact ⟨0, by omega, rfl, h0⟩
  case round =>
    obtain ⟨k, hk, rfl, hJ⟩ := hrel
    have HJ : Hid (J k wr) := hJ.out
    clear hJ
    by_cases hlt : k < 16
    · have g1 : (k : Int) + 16 < 32 := by omega
      have e1 : IntKind.u8.wrap ((k : Int) + 16 - 16) = (k : Int) := by rw [IntWalk.u8_in _ (by omega)]; omega
      have e2 : IntKind.i32.wrap ((k : Int) * 4) = 4 * (k : Int) := by rw [IntWalk.i32_in _ (by omega)]; omega
      have e3 : IntKind.u8.wrap ((k : Int) + 16 + 1) = ((k + 1 : Nat) : Int) + 16 := by rw [IntWalk.u8_in _ (by omega)]; omega
      gi_wp2
      obtain ⟨fn, tmps, assign, body, hy0, hR⟩ := hY k wr hlt HJ.out
      rw [show Sem.run Tryz.prog (Instr.yield l #[.int .u8 ((k : Int) + 16), .int .i32 (4 * (k : Int))]) wr = .ok (Next.round l fn tmps assign body) wr from hy0]
      clear hy0
      gi_wp2
      refine hR.mono ?_
      rintro e W3 ⟨rfl, hJ3⟩
      have HJ3 : Hid (J (k + 1) W3) := hJ3
      clear hJ3
      gi_wp2
      go_roundw
      case rel => exact ⟨k + 1, by omega, by first | rfl | go_num, HJ3.out⟩
      case measure => simp [intOf] <;> omega
    · obtain rfl : k = 16 := by omega
      have g1 : ¬ (((16 : Nat) : Int) + 16 < 32) := by omega
      gi_wp2_with (refine ⟨fun _ h => (by cases h), ?_⟩)
      go_end0
      exact ⟨⟨_, rfl⟩, HJ.out⟩
set_option maxRecDepth 100000 in
set_option maxHeartbeats 8000000 in
theorem weach_any {W w : World} {pa : Nat} {S : Nat → Prop} {s : Bs} (h : BsAt W w pa S s) {op : Int} (hop : op = 23 ∨ op = 22) (hL : s.L.length + 20 < 4294967296) :
    Calls Tryz.prog 186 #[.pointer (some ⟨pa, 0, none⟩), .int .u8 op] w fun e w' => e = .returned (.int .i64 0) ∧ BsGo W w pa S (s.each op 16) w' := by
  refine (callsIn_wide (n := 20)).1 ?_
  refine callsIn_of_wp_marks Tryz.func186 rfl trivial ?_ rfl
  simp only [Tryz.ntmps186, List.size_toArray, List.length_cons, List.length_nil, Nat.reduceAdd, Nat.reduceSub, Array.replicate_succ, Array.replicate_zero, List.push_toArray, List.append_toArray, List.nil_append, List.cons_append]
  gi_wp2_with fail
  refine ⟨trivial, (callsIn_wide.2 (frame_any _)).mono ?_⟩
  rintro e W2 ⟨rfl, rfl⟩
  gi_wp2_with fail
  have HS := ahid (fun lo => EcAt.start (op := op) h lo)
  have hsz3 : (((w.alloc (.cells #[.pointer (some ⟨pa, 0, none⟩)] 64)).alloc (.cells #[.int .u8 op] 5)).alloc (.cells #[.int .i64 0] 31)).heap.size = w.heap.size + 3 := by simp
  have HH := ahid h
  clear h
  revert HS hsz3
  generalize (((w.alloc (.cells #[.pointer (some ⟨pa, 0, none⟩)] 64)).alloc (.cells #[.int .u8 op] 5)).alloc (.cells #[.int .i64 0] 31)) = W2
  intro HS hsz3
  refine range_outer rfl (by omega) (gf := 230) (lb := #[]) rfl trivial (enters_of Tryz.func230 (by kernel_rfl) rfl) ?_
  intro fn rec hfn hrec
  rw [hsz3]
  have HOP := ahid hop
  obtain ⟨J, HJ⟩ : ∃ J : Nat → World → Prop, Hid (∀ k W', J k W' ↔ EcAt W w pa S s op (.loop (rec .ready none)) k W') := ⟨_, ahid fun _ _ => Iff.rfl⟩
  refine (frame_calls 19 (by omega) (w.heap.size + 4) J ?round _ ?start).mono ?behind
  case start => exact (HJ.out _ _).2 (HS.out _)
  case round =>
    intro k W1 hk hJ
    have HE := ahid ((HJ.out _ _).1 hJ)
    clear hJ
    refine one_round hfn hrec HE.out.l rfl ?_
    gi_wp2_with fail
    refine ⟨HE.out.l, ?_⟩
    have HB := ahid (HE.out.put (.loop (rec .busy none)))
    generalize W1.putObj (w.heap.size + 4) (.loop (rec .busy none)) = W3 at HB ⊢
    have c0 := row_cell HB.out.r0 (j := 0) rfl
    have c1 := row_cell HB.out.r1 (j := 0) rfl
    have c2 : W3.cell? ⟨w.heap.size + 1 + 1, 0, none⟩ = some (.int .i64 0) := row_cell HB.out.r2 (j := 0) rfl
    obtain ⟨S', hs, hr⟩ := HB.out.bs
    have HHS := ahid hs
    have HHR := ahid hr
    clear hs hr hop
    gi_wp2_with fail
    have hok : allI [eachI op k] := by
      rcases HOP.out with e | e
      · rw [e]; exact (each_ok k hk).1
      · rw [e]; exact (each_ok k hk).2
    refine ⟨trivial, (CallsIn.inRound (w.heap.size + 4) (callsIn_wide.2 (bs_lit HHS.out (l := [eachI op k]) hok (by simp) (by rw [Bs.each_len]; simp; omega) (Below.refl _ _)))).mono ?_⟩
    rintro e W5 ⟨rfl, hg⟩
    have HE5 := ahid (HB.out.goes (k' := k + 1) HHR.out hg)
    clear hg hok c0 c1 c2
    have c2 : W5.cell? ⟨w.heap.size + 1 + 1, 0, none⟩ = some (.int .i64 0) := row_cell HE5.out.r2 (j := 0) rfl
    have f2 : W5.frozen? ⟨w.heap.size + 1 + 1, 0, none⟩ = false := row_frozen HE5.out.r2 0
    have HE6 := ahid HE5.out.store
    gi_wp2_with fail
    exact ⟨HE6.out.l, rfl, (HJ.out _ _).2 (HE6.out.put _)⟩
  case behind =>
    rintro e W3 ⟨⟨v, rfl⟩, hJ⟩
    have HE := ahid ((HJ.out _ _).1 hJ)
    clear hJ
    refine range_done hrec HE.out.l ?_
    have HB := ahid (HE.out.put (.loop (rec .exhausted none)))
    generalize W3.putObj (w.heap.size + 4) (.loop (rec .exhausted none)) = W4 at HB ⊢
    have c2 : W4.cell? ⟨w.heap.size + 1 + 1, 0, none⟩ = some (.int .i64 0) := row_cell HB.out.r2 (j := 0) rfl
    gi_wp2
    refine ⟨by simp, .inl ⟨_, _, rfl, run_takeDeferred HB.out.d, ?_⟩⟩
    refine ⟨.int .i64 0, ?_, rfl, HB.out.fin _⟩
    simp [results, Tryz.results186, go_sem]
    try rfl
theorem wstore_any {W w : World} {pa : Nat} {S : Nat → Prop} {s : Bs} (h : BsAt W w pa S s) (hL : s.L.length + 20 < 4294967296) :
    Calls Tryz.prog 119 #[.pointer (some ⟨pa, 0, none⟩)] w fun e w' => e = .returned (.int .i64 0) ∧ BsGo W w pa S (s.each 23 16) w' := by
  have H := ahid (weach_any h (op := 23) (.inl rfl) hL)
  clear h
  go_enter Tryz.func119, Tryz.ntmps119
  go_wp2_with fail
  refine H.out.mono ?_
  rintro e w1 ⟨rfl, hg⟩
  have HG := ahid hg
  clear hg
  go_wp2_with fail
  go_ret
  exact ⟨rfl, HG.out⟩
theorem wload_any {W w : World} {pa : Nat} {S : Nat → Prop} {s : Bs} (h : BsAt W w pa S s) (hL : s.L.length + 20 < 4294967296) :
    Calls Tryz.prog 123 #[.pointer (some ⟨pa, 0, none⟩)] w fun e w' => e = .returned (.int .i64 0) ∧ BsGo W w pa S (s.each 22 16) w' := by
  have H := ahid (weach_any h (op := 22) (.inr rfl) hL)
  clear h
  go_enter Tryz.func123, Tryz.ntmps123
  go_wp2_with fail
  refine H.out.mono ?_
  rintro e w1 ⟨rfl, hg⟩
  have HG := ahid hg
  clear hg
  go_wp2_with fail
  go_ret
  exact ⟨rfl, HG.out⟩
end Go.Proofs.YtajholbcpmjhiaaGreatDoor
/- Several machines side by side: what one does leaves the others. No function of the program is walked here. -/
namespace Go.Proofs.YtajholbcpmjhiaaGreatDoor
open Go.RowKit
def Apart (G G' : MG) : Prop := ∀ k, G.R k ≠ .none → G'.R k = .none
theorem Apart.symm {G G' : MG} (h : Apart G G') : Apart G' G := fun k hk => by
  by_cases e : G.R k = .none
  · exact e
  · exact absurd (h k e) hk
theorem Apart.fresh {w : World} {G G' : MG} {M : Nat} {m : Mx} (h : MachAt w G M m) (hl : ∀ k, G'.R k ≠ .none → w.heap.size ≤ k) : Apart G G' := fun k hk => by
  by_cases e : G'.R k = .none
  · exact e
  · have h1 := h.lt k hk
    have h2 := hl k e
    omega
end Go.Proofs.YtajholbcpmjhiaaGreatDoor
/- A machine of a law's own: each call in one form; what stays of the others. No new function of the program is walked here. -/
namespace Go.Proofs.YtajholbcpmjhiaaGreatDoor
open Go.RowKit
theorem fileM_ok {m : Mx} (h : m.ok) {f : Fx} (hf : f.ok) (hn : f.nw = m.f.nw) : ({ m with f := f } : Mx).ok := by
  obtain ⟨a1, a2, a3, a4, a5, a6, a7, a8, a9, b1, b2, b3, b4, b5, b6, b7, b8, b9, c1⟩ := h
  refine ⟨hf, a2, a3, a4, a5, a6, a7, a8, ?_, b1, b2, b3, b4, b5, b6, b7, b8, b9, c1⟩
  unfold Mx.nw at a9 ⊢
  rw [show ({ m with f := f } : Mx).f.nw = m.f.nw from hn]
  exact a9
structure MIs (w0 w : World) (G : MG) (M : Nat) (m : Mx) : Prop where
  at' : MachAt w G M m
  lo : ∀ k, G.R k ≠ .none → w0.heap.size ≤ k
  bel : Below w0.heap.size w0 w
def MKeeps (w w' : World) (G G' : MG) : Prop := Only (fun k => G.R k ≠ .none) w w' ∧ ∀ k, k < w.heap.size → G.R k = .none → G'.R k = .none
def MTo (w0 w w' : World) (G : MG) (M : Nat) (m' : Mx) : Prop := ∃ G', MIs w0 w' G' M m' ∧ MKeeps w w' G G'
section
variable {w0 w w' : World} {G G' G2 : MG} {M M2 : Nat} {m m' m2 : Mx}
theorem MIs.keepb (h : MIs w0 w G M m) (hb : Below w.heap.size w w') : MIs w0 w' G M m :=
  ⟨h.at'.keepb hb, h.lo, h.bel.trans (hb.mono h.bel.size)⟩
theorem MIs.drewN (h : MIs w0 w G M m) (n : Nat) : MIs w0 (w.drewN n) G M m := h.keepb ⟨rfl, rfl, rfl, Nat.le_refl _, fun _ _ => rfl⟩
theorem MKeeps.below (hk : MKeeps w w' G G') (h : MIs w0 w G M m) : Below w0.heap.size w0 w' :=
  h.bel.trans (hk.1.below h.bel.size (fun k hk2 hC => absurd (h.lo k hC) (by omega)))
theorem MIs.other (h : MIs w0 w G2 M2 m2) (h1 : MIs w0 w G M m) (hs : Apart G G2) (hk : MKeeps w w' G G') : MIs w0 w' G2 M2 m2 ∧ Apart G' G2 := by
  refine ⟨⟨h.at'.keep hk.1 (fun k h2 hC => h2 (hs k hC)), h.lo, hk.below h1⟩, fun k hk' => ?_⟩
  · by_cases e : G2.R k = .none
    · exact e
    · have h1 := h.at'.lt k e
      by_cases e2 : G.R k = .none
      · exact absurd (hk.2 k h1 e2) hk'
      · exact hs k e2
def MRow (w : World) (G : MG) (v : Value) (l : List Int) : Prop := Reads32 w v l ∧ ∀ k, v.ownBlock = some k → G.R k = .none ∧ k < w.heap.size
theorem MRow.keep {v : Value} {l : List Int} (h : MRow w G v l) (hk : MKeeps w w' G G') : MRow w' G' v l :=
  ⟨h.1.keepO hk.1 (fun k e hC => hC (h.2 k e).1), fun k e => ⟨hk.2 k (h.2 k e).2 (h.2 k e).1, Nat.lt_of_lt_of_le (h.2 k e).2 hk.1.size⟩⟩
theorem MRow.keepb {v : Value} {l : List Int} (h : MRow w G v l) (hb : Below w.heap.size w w') : MRow w' G v l :=
  ⟨h.1.keepb hb, fun k e => ⟨(h.2 k e).1, Nat.lt_of_lt_of_le (h.2 k e).2 hb.size⟩⟩
theorem MRow.of_own {v : Value} {l : List Int} (h : MIs w0 w G M m) (ho : w'.ownsRow w.heap.size 24 1 v l.length (u32s l)) : MRow w' G v l :=
  ⟨Reads32.of_own ho, fun k e => ⟨by
    by_cases e2 : G.R k = .none
    · exact e2
    · have h1 := h.at'.lt k e2
      have h2 := (own_range ho k e).1
      omega, (own_range ho k e).2⟩⟩
theorem MGoes.to (h : MIs w0 w G M m) (hg : MGoes w G M m' w') : MTo w0 w w' G M m' := by
  obtain ⟨G', h1, h2, h3⟩ := hg
  have ho : Only (fun k => G.R k ≠ .none) w w' := h2.mono (fun k _ hk => hk.1)
  have hsz := h.bel.size
  refine ⟨G', ⟨h1, fun k hk => ?_, h.bel.trans (ho.below hsz (fun k hk2 hC => absurd (h.lo k hC) (by omega)))⟩, ho, fun k hk e => (h3 k hk).trans e⟩
  by_cases e : k < w.heap.size
  · exact h.lo k (by rw [← h3 k e]; exact hk)
  · omega
theorem MIs.to (h : MIs w0 w G M m) (h1 : MachAt w' G M m') (ho : Only (fun k => G.R k ≠ .none) w w') : MTo w0 w w' G M m' :=
  ⟨G, ⟨h1, h.lo, h.bel.trans (ho.below h.bel.size (fun k hk2 hC => absurd (h.lo k hC) (by omega)))⟩, ho, fun _ _ e => e⟩
end
section
variable (w0 w : World) (ht : Tab w0) (hbr : Bru w0) (G : MG) (M : Nat) (m : Mx) (h : MIs w0 w G M m)
include h
theorem mw_step (ht : Tab w0) (hbr : Bru w0) (level : Int) (hl0 : 0 ≤ level) (hl1 : level < 256) (hol : m.out.length < 4294967296) :
    Calls Tryz.prog 45 #[.pointer (some ⟨M, 0, none⟩), .int .u8 level] w fun e w' => e = .returned (.agg #[.int .u8 (stepM m level).kind, .int .u32 (stepM m level).v]) ∧ MTo w0 w w' G M (stepM m level) :=
  (mstep_any w (ht.keep h.bel) (hbr.keep h.bel) G M m h.at' level hl0 hl1 hol).mono fun e w' he => ⟨he.1, MGoes.to h he.2⟩
theorem mw_store (a x : Int) (ha : 0 ≤ a ∧ a < 4294967296) (hx : 0 ≤ x ∧ x < 4294967296) :
    Calls Tryz.prog 17 #[.pointer (some ⟨G.mB, 0, none⟩), .int .u32 a, .int .i64 4, .int .u32 x] w fun e w' => e = .returned (.int .i64 (spanE m.mem.length a 1 4)) ∧ MTo w0 w w' G M { m with mem := storeV m.mem a 4 x } := by
  refine (store_any w G.mB G.gB m.mem h.at'.mem a 4 ha.1 ha.2 x hx.1 hx.2).mono fun e w' he => ⟨he.1, h.to (h.at'.mem' he.2.2.1 he.2.1 (memM_ok h.at'.ok (storeV_ok h.at'.ok.bytes a 4 x).1 (storeV_ok h.at'.ok.bytes a 4 x).2)) (he.2.2.1.mono fun k _ hk => ?_)⟩
  have e : k = G.gB := hk
  rw [e, h.at'.rg]; simp
theorem mw_set (wi b r x : Int) (hx : 0 ≤ x ∧ x < 4294967296) :
    Calls Tryz.prog 20 #[.pointer (some ⟨G.F, 0, none⟩), .int .i64 wi, .int .i64 b, .int .i64 r, .int .u32 x] w fun e w' => e = .returned (.int .i64 (regE m.f wi b r)) ∧ MTo w0 w w' G M { m with f := setV m.f wi b r x } := by
  refine (fset_any w G.F G.Wb G.wc m.f h.at'.file wi b r x hx).mono fun e w' he => ⟨he.1, h.to (h.at'.file' he.2.2.1 he.2.1 (setV_nw _ _ _ _ _) (fileM_ok h.at'.ok (h.at'.ok.f.sV _ _ _ hx) (setV_nw _ _ _ _ _))) (he.2.2.1.mono fun k _ hk => ?_)⟩
  rcases hk with e | e
  · rw [e, h.at'.rF]; simp
  · rw [e, h.at'.rW]; simp
theorem mw_setpc (x : Int) (hx : 0 ≤ x ∧ x < 4294967296) :
    Calls Tryz.prog 54 #[.pointer (some ⟨M, 0, none⟩), .int .u32 x] w fun e w' => e = .returned (.int .i64 0) ∧ MTo w0 w w' G M { m with pc := x } := by
  refine (msetpc_any w G M m h.at' x hx).mono fun e w' he => ⟨he.1, h.to he.2.1 (he.2.2.mono fun k _ hk => ?_)⟩
  have e : k = M := hk
  rw [e, h.at'.rM]; simp
theorem mw_setwim (hbr : Bru w0) (x : Int) (hx : 0 ≤ x ∧ x < 4294967296) :
    Calls Tryz.prog 56 #[.pointer (some ⟨M, 0, none⟩), .int .u32 x] w fun e w' => e = .returned (.int .i64 (invE x m.nw)) ∧ MTo w0 w w' G M (swimM m x) := by
  refine (msetwim_any w (hbr.keep h.bel) G M m h.at' x hx).mono fun e w' he => ⟨he.1, h.to he.2.1 (he.2.2.mono fun k _ hk => ?_)⟩
  have e : k = M := hk
  rw [e, h.at'.rM]; simp
theorem mw_setpsr (q : Px) (hq : q.bd) :
    Calls Tryz.prog 55 #[.pointer (some ⟨M, 0, none⟩), q.agg] w fun e w' => e = .returned (.int .i64 (packE q m.nw)) ∧ MTo w0 w w' G M (spsrM m q) := by
  refine (msetpsr_any w G M m h.at' q hq).mono fun e w' he => ⟨he.1, h.to he.2.1 (he.2.2.mono fun k _ hk => ?_)⟩
  have e : k = M := hk
  rw [e, h.at'.rM]; simp
theorem mw_win (wi : Int) :
    Calls Tryz.prog 13 #[.pointer (some ⟨G.F, 0, none⟩), .int .i64 wi] w fun e w' => ∃ v, e = .returned (.tuple #[v, .int .i64 (regE m.f wi 0 0)]) ∧ MRow w' G v (winV m.f wi) ∧ Below w.heap.size w w' := by
  refine (fwin_any w G.F G.Wb G.wc m.f h.at'.file wi).mono fun e w' he => ?_
  obtain ⟨v, h1, h2, h3⟩ := he
  exact ⟨v, h1, MRow.of_own h h2, h3⟩
theorem mw_out (hol : m.out.length < 4294967296) :
    Calls Tryz.prog 27 #[.pointer (some ⟨M, 0, none⟩)] w fun e w' => ∃ v, e = .returned v ∧ MRow w' G v m.out ∧ Below w.heap.size w w' := by
  refine (mout_any w G M m h.at' hol).mono fun e w' he => ?_
  obtain ⟨v, h1, h2, h3⟩ := he
  exact ⟨v, h1, MRow.of_own h h2, h3⟩
end
theorem mw_new (nw size : Nat) (w0 w : World) (hb : Below w0.heap.size w0 w) (h2 : 2 ≤ nw) (h32 : nw ≤ 32) (hs : size ≤ 4194304) (h4 : size % 4 = 0) :
    Calls Tryz.prog 50 #[.int .i64 nw, .int .i64 size] w fun e w' => ∃ M G, e = .returned (.tuple #[.pointer (some ⟨M, 0, none⟩), .int .i64 0]) ∧ MIs w0 w' G M (newM nw size) ∧ (∀ k, k < w.heap.size → G.R k = .none) ∧ Below w.heap.size w w' := by
  refine (mnew_ok nw size w h2 h32 hs h4).mono fun e w' he => ?_
  obtain ⟨M', G', h1, h2, h3, h4⟩ := he
  refine ⟨M', G', h1, ⟨h2, fun k hk => Nat.le_trans hb.size (h3 k hk), hb.trans (h4.mono hb.size)⟩, fun k hk => ?_, h4⟩
  by_cases e : G'.R k = .none
  · exact e
  · have := h3 k e; omega
end Go.Proofs.YtajholbcpmjhiaaGreatDoor
/- A machine of a law's own: Load, Choose, Words in the form of MachUse. No new function of the program is walked here. -/
namespace Go.Proofs.YtajholbcpmjhiaaGreatDoor
open Go.RowKit
section
variable (w0 w : World) (G : MG) (M : Nat) (m : Mx) (h : MIs w0 w G M m)
include h
theorem mw_choose (v : Value) (l : List Int) (hr : Reads32 w v l) (hl : l.length * 4 ≤ 140737488355328) (hw : Words l) (hnil : ∀ c n, v = .slice none n c → c = 0) :
    Calls Tryz.prog 96 #[.pointer (some ⟨M, 0, none⟩), v] w fun e w' => e = .returned (.int .i64 0) ∧ MTo w0 w w' G M { m with ch := l } := by
  refine (mchoose_any w G M m h.at' v l hr hl hw hnil).mono fun e w' he => ⟨he.1, ?_⟩
  obtain ⟨h1, ⟨G', h2, h3, h4⟩, h5⟩ := he
  have ho : Only (fun k => G.R k ≠ .none) w w' := h5.mono (fun k _ hk => by
    have e : k = M := hk
    rw [e, h.at'.rM]; simp)
  refine ⟨G', ⟨h2, fun k hk => ?_, h.bel.trans (ho.below h.bel.size (fun k hk2 hC => absurd (h.lo k hC) (by omega)))⟩, ho, fun k hk e => (h3 k hk).trans e⟩
  rcases h4 k hk with h6 | h6
  · exact h.lo k h6
  · have := h.bel.size; omega
end
end Go.Proofs.YtajholbcpmjhiaaGreatDoor
/- Resident windows. -/
namespace Go.Proofs.YtajholbcpmjhiaaGreatDoor
open Go.RowKit
theorem info64 : (Tryz.prog.info? 3).map (fun i => (i.zero, i.size, i.bytes)) = some (some (.int .i64 0), 1, 8) := by kernel_rfl
def i64s (l : List Int) : List Value := l.map (.int .i64)
def resK (x nw : Int) (k : Nat) : List Int := (List.range k).map fun (i : Nat) => (x + (i : Int)) % nw
def resL (x fin nw : Int) : List Int := resK x nw ((fin - x) % nw).toNat
def resE (x wim nw : Int) : Int := if okW x nw then invE wim nw else 2
def resV (x wim nw : Int) : List Int := if okW x nw ∧ invE wim nw = 0 then resL x (invV wim nw) nw else []
theorem resK_succ (x nw : Int) (k : Nat) : resK x nw (k + 1) = resK x nw k ++ [(x + (k : Int)) % nw] := by
  unfold resK; rw [List.range_succ, List.map_append]; rfl
theorem resK_len (x nw : Int) (k : Nat) : (resK x nw k).length = k := by simp [resK]
theorem inv_bd {wim nw : Int} (h : invE wim nw = 0) : winP nw ∧ 0 ≤ invV wim nw ∧ invV wim nw < nw := by
  unfold invE at h
  by_cases hw : winP nw
  · rw [if_pos hw] at h
    refine ⟨hw, ?_⟩
    unfold invV
    rw [if_pos hw]
    cases hi : invO wim nw with
    | none => rw [hi] at h; simp at h
    | some k =>
      simp only
      have hk := List.mem_of_find?_eq_some hi
      simp only [List.mem_range] at hk
      omega
  · rw [if_neg hw] at h; omega
def TellsI (l : List Int) (er : Int) (w : World) (e : Ending) (w' : World) : Prop :=
  ∃ v, e = .returned (.tuple #[v, .int .i64 er]) ∧ w'.ownsRow w.heap.size 3 1 v l.length (i64s l) ∧ Below w.heap.size w w'
theorem res_step {x fin nw : Int} (hw : winP nw) (hf : 0 ≤ fin ∧ fin < nw) (hx : 0 ≤ x ∧ x < nw) (k : Nat) :
    (k < ((fin - x) % nw).toNat → (x + (k : Int)) % nw ≠ fin) ∧ (x + ((((fin - x) % nw).toNat : Nat) : Int)) % nw = fin ∧ (k ≤ ((fin - x) % nw).toNat → k < 32) ∧ ((x + (k : Int)) % nw + 1) % nw = (x + ((k + 1 : Nat) : Int)) % nw ∧ 0 ≤ (x + (k : Int)) % nw ∧ (x + (k : Int)) % nw < nw := by
  obtain ⟨hw1, hw2⟩ := hw
  have hm := Int.emod_nonneg (fin - x) (by omega : nw ≠ 0)
  have hm2 := Int.emod_lt_of_pos (fin - x) (by omega : 0 < nw)
  have e1 : (x + ((((fin - x) % nw).toNat : Nat) : Int)) % nw = fin := by
    rw [Int.toNat_of_nonneg hm, Int.add_emod, Int.emod_emod_of_dvd _ (Int.dvd_refl _), ← Int.add_emod]
    rw [show x + (fin - x) = fin by omega]
    exact Int.emod_eq_of_lt hf.1 hf.2
  refine ⟨fun hk h => ?_, e1, fun hk => by omega, ?_, Int.emod_nonneg _ (by omega), Int.emod_lt_of_pos _ (by omega)⟩
  · -- two numbers below nw with the same remainder are the same
    have h2 : (fin - x) % nw = (k : Int) := by
      rw [← h, Int.sub_emod, Int.emod_emod_of_dvd _ (Int.dvd_refl _), ← Int.sub_emod]
      rw [show x + (k : Int) - x = (k : Int) by omega]
      exact Int.emod_eq_of_lt (by omega) (by omega)
    omega
  · rw [Int.add_emod, Int.emod_emod_of_dvd _ (Int.dvd_refl _), ← Int.add_emod]
    congr 1
    omega
theorem res_meas {x fin nw : Int} (hw : winP nw) (k : Nat) (hk : k ≤ ((fin - x) % nw).toNat) : ((fin - (x + (k : Int)) % nw) % nw).toNat = ((fin - x) % nw).toNat - k := by
  obtain ⟨hw1, hw2⟩ := hw
  have hm := Int.emod_nonneg (fin - x) (by omega : nw ≠ 0)
  have hm2 := Int.emod_lt_of_pos (fin - x) (by omega : 0 < nw)
  have e1 := Int.mul_ediv_add_emod (fin - x) nw
  have e2 := Int.mul_ediv_add_emod (x + (k : Int)) nw
  have e3 : fin - (x + (k : Int)) % nw = ((fin - x) % nw - (k : Int)) + nw * ((fin - x) / nw + (x + (k : Int)) / nw) := by
    rw [Int.mul_add]; omega
  rw [e3, Int.add_mul_emod_self_left, Int.emod_eq_of_lt (by omega) (by omega)]
  omega
theorem own_nil64 (w : World) (b : Nat) : w.ownsRow b 3 1 (.slice none 0 0) ([] : List Int).length (i64s []) := World.ownsRow_nil w b _ _
end Go.Proofs.YtajholbcpmjhiaaGreatDoor
/- Walks of the document's Pack and Unpack (muntinref04). -/
namespace Go.Proofs.YtajholbcpmjhiaaGreatDoor
open Go.RowKit
theorem rwindows_any (nw : Int) (w : World) : Calls Tryz.prog 131 #[.int .i64 nw] w fun e w' => e = .returned (.bool (decide (winP nw))) ∧ w = w' := by
  by_cases h1 : 2 ≤ nw
  · by_cases h2 : nw ≤ 32
    · have e1 : decide (2 ≤ nw) = true := by simpa using h1
      have e2 : decide (nw ≤ 32) = true := by simpa using h2
      have E := phid (show decide (winP nw) = true from decide_eq_true ⟨h1, h2⟩)
      clear h1 h2
      go_enter Tryz.func131, Tryz.ntmps131
      go_wp2
      go_ret
      exact ⟨pretb E.out.symm, rfl⟩
    · have e1 : decide (2 ≤ nw) = true := by simpa using h1
      have e2 : decide (nw ≤ 32) = false := by simpa using h2
      have E := phid (show decide (winP nw) = false from decide_eq_false (fun h => h2 h.2))
      clear h1 h2
      go_enter Tryz.func131, Tryz.ntmps131
      go_wp2
      go_ret
      exact ⟨pretb E.out.symm, rfl⟩
  · have e1 : decide (2 ≤ nw) = false := by simpa using h1
    have E := phid (show decide (winP nw) = false from decide_eq_false (fun h => h1 h.1))
    clear h1
    go_enter Tryz.func131, Tryz.ntmps131
    go_wp2
    go_ret
    exact ⟨pretb E.out.symm, rfl⟩
end Go.Proofs.YtajholbcpmjhiaaGreatDoor
/- The document's windows (muntinref04). -/
namespace Go.Proofs.YtajholbcpmjhiaaGreatDoor
open Go.RowKit
theorem okW_cases (x nw : Int) : (¬ winP nw ∧ ¬ okW x nw) ∨ (winP nw ∧ x < 0 ∧ ¬ okW x nw) ∨ (winP nw ∧ 0 ≤ x ∧ nw ≤ x ∧ ¬ okW x nw) ∨ (winP nw ∧ 0 ≤ x ∧ x < nw ∧ okW x nw) := by
  by_cases hw : winP nw
  · by_cases h0 : x < 0
    · exact .inr (.inl ⟨hw, h0, fun h => by have := h.2.1; omega⟩)
    · by_cases h1 : nw ≤ x
      · exact .inr (.inr (.inl ⟨hw, by omega, h1, fun h => by have := h.2.2; omega⟩))
      · exact .inr (.inr (.inr ⟨hw, by omega, by omega, hw, by omega, by omega⟩))
  · exact .inl ⟨hw, fun h => hw h.1⟩
set_option maxHeartbeats 1000000 in
theorem rnext_any (x nw by' : Int) (hby : winP nw → 0 ≤ by' ∧ by' ≤ 32) (w : World) : Calls Tryz.prog 73 #[.int .i64 x, .int .i64 nw, .int .i64 by'] w fun e w' => e = .returned (.tuple #[.int .i64 (stepV x by' nw), .int .i64 (okE x nw)]) ∧ w = w' := by
  have hq := rwindows_any nw
  rcases okW_cases x nw with ⟨hw, hn⟩ | ⟨hw, hx, hn⟩ | ⟨hw, hx, hx2, hn⟩ | ⟨hw, hx, hx2, hn⟩
  · rw [decide_eq_false hw] at hq
    have H1 := phid hq
    have E := phid (show stepV x by' nw = 0 ∧ okE x nw = 2 from ⟨if_neg hn, if_neg hn⟩)
    clear hq hw hn hby
    go_enter Tryz.func73, Tryz.ntmps73
    go_wp2_with fail
    refine (H1.out _).mono ?_
    rintro e w' ⟨rfl, rfl⟩
    go_wp2_with fail
    go_ret2
    exact ⟨pret2 E.out.1.symm E.out.2.symm, rfl⟩
  · rw [decide_eq_true hw] at hq
    have H1 := phid hq
    have E := phid (show stepV x by' nw = 0 ∧ okE x nw = 2 from ⟨if_neg hn, if_neg hn⟩)
    have d1 : decide (x < 0) = true := by simpa using hx
    clear hq hw hn hby hx
    go_enter Tryz.func73, Tryz.ntmps73
    go_wp2_with fail
    refine (H1.out _).mono ?_
    rintro e w' ⟨rfl, rfl⟩
    go_wp2_with fail
    go_ret2
    exact ⟨pret2 E.out.1.symm E.out.2.symm, rfl⟩
  · rw [decide_eq_true hw] at hq
    have H1 := phid hq
    have E := phid (show stepV x by' nw = 0 ∧ okE x nw = 2 from ⟨if_neg hn, if_neg hn⟩)
    have d1 : decide (x < 0) = false := by simp; omega
    have d2 : decide (nw ≤ x) = true := by simpa using hx2
    clear hq hw hn hby hx hx2
    go_enter Tryz.func73, Tryz.ntmps73
    go_wp2_with fail
    refine (H1.out _).mono ?_
    rintro e w' ⟨rfl, rfl⟩
    go_wp2_with fail
    go_ret2
    exact ⟨pret2 E.out.1.symm E.out.2.symm, rfl⟩
  · rw [decide_eq_true hw] at hq
    have H1 := phid hq
    have E := phid (show stepV x by' nw = (x + by') % nw ∧ okE x nw = 0 from ⟨if_pos hn, if_pos hn⟩)
    have d1 : decide (x < 0) = false := by simp; omega
    have d2 : decide (nw ≤ x) = false := by simp; omega
    have hb := hby hw
    obtain ⟨hw1, hw2⟩ := hw
    have hs : 0 ≤ x + by' ∧ x + by' ≤ 64 := by omega
    clear hq hn hby
    go_enter Tryz.func73, Tryz.ntmps73
    go_wp2_with fail
    refine (H1.out _).mono ?_
    rintro e w' ⟨rfl, rfl⟩
    go_wp2_with fail
    go_ret2
    exact ⟨pret2 E.out.1.symm E.out.2.symm, rfl⟩
set_option maxHeartbeats 1000000 in
theorem rwim_any (x nw : Int) (w : World) : Calls Tryz.prog 100 #[.int .i64 x, .int .i64 nw] w fun e w' => e = .returned (.tuple #[.int .u32 (wimV x nw), .int .i64 (okE x nw)]) ∧ w = w' := by
  have hq := rwindows_any nw
  rcases okW_cases x nw with ⟨hw, hn⟩ | ⟨hw, hx, hn⟩ | ⟨hw, hx, hx2, hn⟩ | ⟨hw, hx, hx2, hn⟩
  · rw [decide_eq_false hw] at hq
    have H1 := phid hq
    have E := phid (show wimV x nw = 0 ∧ okE x nw = 2 from ⟨if_neg hn, if_neg hn⟩)
    clear hq hw hn
    go_enter Tryz.func100, Tryz.ntmps100
    go_wp2_with fail
    refine (H1.out _).mono ?_
    rintro e w' ⟨rfl, rfl⟩
    go_wp2_with fail
    go_ret2
    exact ⟨pret2 E.out.1.symm E.out.2.symm, rfl⟩
  · rw [decide_eq_true hw] at hq
    have H1 := phid hq
    have E := phid (show wimV x nw = 0 ∧ okE x nw = 2 from ⟨if_neg hn, if_neg hn⟩)
    have d1 : decide (x < 0) = true := by simpa using hx
    clear hq hw hn hx
    go_enter Tryz.func100, Tryz.ntmps100
    go_wp2_with fail
    refine (H1.out _).mono ?_
    rintro e w' ⟨rfl, rfl⟩
    go_wp2_with fail
    go_ret2
    exact ⟨pret2 E.out.1.symm E.out.2.symm, rfl⟩
  · rw [decide_eq_true hw] at hq
    have H1 := phid hq
    have E := phid (show wimV x nw = 0 ∧ okE x nw = 2 from ⟨if_neg hn, if_neg hn⟩)
    have d1 : decide (x < 0) = false := by simp; omega
    have d2 : decide (nw ≤ x) = true := by simpa using hx2
    clear hq hw hn hx hx2
    go_enter Tryz.func100, Tryz.ntmps100
    go_wp2_with fail
    refine (H1.out _).mono ?_
    rintro e w' ⟨rfl, rfl⟩
    go_wp2_with fail
    go_ret2
    exact ⟨pret2 E.out.1.symm E.out.2.symm, rfl⟩
  · rw [decide_eq_true hw] at hq
    have H1 := phid hq
    have E := phid (show wimV x nw = 2 ^ x.toNat ∧ okE x nw = 0 from ⟨if_pos hn, if_pos hn⟩)
    have d1 : decide (x < 0) = false := by simp; omega
    have d2 : decide (nw ≤ x) = false := by simp; omega
    obtain ⟨hw1, hw2⟩ := hw
    obtain ⟨K, rfl⟩ := Int.eq_ofNat_of_zero_le hx
    rw [Int.toNat_natCast] at E
    clear hq hn
    go_enter Tryz.func100, Tryz.ntmps100
    go_wp2_with fail
    refine (H1.out _).mono ?_
    rintro e w' ⟨rfl, rfl⟩
    go_wp2_with fail
    go_loop [6, 7] (fun n i => ∃ k : Nat, k ≤ K ∧ i = .int .i64 k ∧ n = .int .u32 (2 ^ k)) (fun _ i => K - (intOf i).toNat)
    case atStart => exact ⟨0, Nat.zero_le _, rfl, rfl⟩
    case round =>
      obtain ⟨k, hk, rfl, rfl⟩ := hrel
      by_cases hlt : k < K
      · have hp : (2 : Int) ^ (k + 1) = 2 * 2 ^ k := by rw [Int.pow_succ]; omega
        have hp0 : (1 : Int) ≤ 2 ^ k ∧ (2 : Int) ^ k ≤ 1073741824 := by
          have h1 : 2 ^ k ≤ 2 ^ 30 := Nat.pow_le_pow_right (by omega) (by omega)
          have h2 : (2 : Int) ^ k = ((2 ^ k : Nat) : Int) := by simp
          have h3 := Nat.one_le_two_pow (n := k)
          rw [h2]
          generalize 2 ^ k = p at h1 h3 ⊢
          omega
        have HP := phid hp
        have hkk : (k : Int) < K := by omega
        clear hp
        generalize (2 : Int) ^ k = p at hp0 HP ⊢
        go_wp2_with fail
        go_round
        case rel => exact ⟨k + 1, by omega, by go_num, by rw [HP.out]⟩
        case measure => simp [intOf] <;> omega
      · obtain rfl : k = K := by omega
        go_wp2_with fail
        go_ret2
        exact ⟨pret2 E.out.1.symm E.out.2.symm, rfl⟩
end Go.Proofs.YtajholbcpmjhiaaGreatDoor
