/- Several texts in one: WindEach, WindOver. -/
import Derived.Test.YtkejnhleajfcjaaGreatDoorGG
import Derived.Test.YtkejnhleajfcjaaGreatDoorGI
/- Walks of the package wind: what stores, or loads, a frame. -/
namespace Go.Proofs.YtkejnhleajfcjaaGreatDoor
open Go.RowKit Go.Shelf
set_option linter.unusedVariables false
set_option linter.unusedSimpArgs false
attribute [local go_sem] Oper.semAt_some
theorem only_putObj (w : World) (g : Nat) (o : Obj) : Only (fun k => k = g) w (w.putObj g o) := ⟨rfl, rfl, rfl, by simp [World.putObj], fun k hk hne => World.putObj_heap_other hne⟩
theorem BsAt.only {W w w' : World} {pa : Nat} {S T : Nat → Prop} {s : Bs} (h : BsAt W w pa S s) (o : Only T w w') (hd : ∀ k, S k → ¬ T k) (hT : ∀ k, T k → W.heap.size ≤ k) : BsAt W w' pa S s :=
  ⟨h.lst.keep o hd, h.tab.keepO o hT, h.bel.trans (o.below h.bel.size (fun k hk hS => by have := hT k hS; omega))⟩
theorem row_cell {w : World} {k : Nat} {cs : Array Value} {t : TypeId} {fr : Nat × Nat} (h : w.heap[k]? = some (.cells cs t fr)) {j : Nat} {v : Value} (hj : cs[j]? = some v) : w.cell? ⟨k, j, none⟩ = some v := by
  simp [World.cell?, h, hj]
theorem row_frozen {w : World} {k : Nat} {cs : Array Value} {t : TypeId} (h : w.heap[k]? = some (.cells cs t (0, 0))) (j : Nat) : w.frozen? ⟨k, j, none⟩ = false := by
  simp [World.frozen?, h]
/-- Behind k rounds: the boxes at b, b + 1, b + 2, the records behind them. -/
structure EcAt (W w : World) (pa : Nat) (S : Nat → Prop) (s : Bs) (op : Int) (lo : Obj) (k : Nat) (wr : World) : Prop where
  bs : ∃ S', BsAt W wr pa S' (s.each op k) ∧ ∀ i, S' i → S i ∨ w.heap.size + 5 ≤ i
  only : Only S w wr
  r0 : wr.heap[w.heap.size]? = some (.cells #[.pointer (some ⟨pa, 0, none⟩)] 119 (0, 0))
  r1 : wr.heap[w.heap.size + 1]? = some (.cells #[.int .u8 op] 5 (0, 0))
  r2 : wr.heap[w.heap.size + 2]? = some (.cells #[.int .i64 0] 31 (0, 0))
  d : wr.heap[w.heap.size + 3]? = some (.deferred (some []))
  l : wr.heap[w.heap.size + 4]? = some lo
  sl : ∀ i, S i → i < w.heap.size
  wl : W.heap.size ≤ w.heap.size
section
variable {W w wr w' : World} {pa : Nat} {S : Nat → Prop} {s : Bs} {op : Int} {lo : Obj} {k : Nat}
theorem EcAt.lt (h : EcAt W w pa S s op lo k wr) : w.heap.size + 5 ≤ wr.heap.size := by
  have := (Array.getElem?_eq_some_iff.1 h.l).1
  omega
theorem EcAt.keepb (h : EcAt W w pa S s op lo k wr) (hb : Below wr.heap.size wr w') : EcAt W w pa S s op lo k w' := by
  obtain ⟨S', hs, hr⟩ := h.bs
  have hlt := h.lt
  have o : Only S wr w' := Only.of_below hb
  exact ⟨⟨S', hs.keepb hb, hr⟩, h.only.trans o, (hb.block _ (by omega)).trans h.r0, (hb.block _ (by omega)).trans h.r1, (hb.block _ (by omega)).trans h.r2, (hb.block _ (by omega)).trans h.d, (hb.block _ (by omega)).trans h.l, h.sl, h.wl⟩
/-- The list goes on. -/
theorem EcAt.goes {k' : Nat} (h : EcAt W w pa S s op lo k wr) {S' : Nat → Prop} (hr : ∀ i, S' i → S i ∨ w.heap.size + 5 ≤ i) (hg : BsGo W wr pa S' (s.each op k') w') : EcAt W w pa S s op lo k' w' := by
  obtain ⟨S2, h2, o2, r2⟩ := hg
  have hlt := h.lt
  have hno : ∀ i, w.heap.size ≤ i → i < w.heap.size + 5 → ¬ S' i := fun i h1 h2 h3 => by
    rcases hr i h3 with h4 | h4
    · have := h.sl i h4; omega
    · omega
  have hb : ∀ i, w.heap.size ≤ i → i < w.heap.size + 5 → w'.heap[i]? = wr.heap[i]? := fun i h1 h2 => o2.block i (by omega) (hno i h1 h2)
  refine ⟨⟨S2, h2, fun i hi => ?_⟩, h.only.fresh o2 (fun i hi hk => ?_), (hb _ (by omega) (by omega)).trans h.r0, (hb _ (by omega) (by omega)).trans h.r1, (hb _ (by omega) (by omega)).trans h.r2, (hb _ (by omega) (by omega)).trans h.d, (hb _ (by omega) (by omega)).trans h.l, h.sl, h.wl⟩
  · rcases r2 i hi with h3 | h3
    · exact hr i h3
    · exact .inr (by omega)
  · rcases hr i hk with h3 | h3
    · exact h3
    · omega
theorem EcAt.start (h : BsAt W w pa S s) (lo : Obj) : EcAt W w pa S s op lo 0 (((((w.alloc (.cells #[.pointer (some ⟨pa, 0, none⟩)] 119)).alloc (.cells #[.int .u8 op] 5)).alloc (.cells #[.int .i64 0] 31)).alloc (.deferred (some []))).alloc lo) := by
  have hb : Below w.heap.size w (((((w.alloc (.cells #[.pointer (some ⟨pa, 0, none⟩)] 119)).alloc (.cells #[.int .u8 op] 5)).alloc (.cells #[.int .i64 0] 31)).alloc (.deferred (some []))).alloc lo) :=
    (((((Below.refl _ w).alloc (Nat.le_refl _) _).alloc (by simp only [World.size_alloc]; omega) _).alloc (by simp only [World.size_alloc]; omega) _).alloc (by simp only [World.size_alloc]; omega) _).alloc (by simp only [World.size_alloc]; omega) _
  have n : ∀ (v : World) (o : Obj) (i : Nat), v.heap.size = i → (v.alloc o).heap[i]? = some o := fun v o i e => e ▸ World.alloc_heap_new v o
  have k : ∀ (v : World) (o : Obj) (i : Nat), i < v.heap.size → (v.alloc o).heap[i]? = v.heap[i]? := fun v o i e => Below.heap_alloc v o i e
  refine ⟨⟨S, h.keepb hb, fun i hi => .inl hi⟩, Only.of_below hb, ?_, ?_, ?_, ?_, ?_, fun i hi => (h.lst.lo i hi).2, h.bel.size⟩
  · rw [k _ _ _ (by simp only [World.size_alloc]; omega), k _ _ _ (by simp only [World.size_alloc]; omega), k _ _ _ (by simp only [World.size_alloc]; omega), k _ _ _ (by simp only [World.size_alloc]; omega), n _ _ _ rfl]
  · rw [k _ _ _ (by simp only [World.size_alloc]; omega), k _ _ _ (by simp only [World.size_alloc]; omega), k _ _ _ (by simp only [World.size_alloc]; omega), n _ _ _ (by simp only [World.size_alloc])]
  · rw [k _ _ _ (by simp only [World.size_alloc]; omega), k _ _ _ (by simp only [World.size_alloc]; omega), n _ _ _ (by simp only [World.size_alloc])]
  · rw [k _ _ _ (by simp only [World.size_alloc]; omega), n _ _ _ (by simp only [World.size_alloc])]
  · rw [n _ _ _ (by simp only [World.size_alloc])]
/-- A box or a record is stored. -/
theorem EcAt.put (h : EcAt W w pa S s op lo k wr) (lo' : Obj) : EcAt W w pa S s op lo' k (wr.putObj (w.heap.size + 4) lo') := by
  obtain ⟨S', hs, hr⟩ := h.bs
  have hlt := h.lt
  have o := only_putObj wr (w.heap.size + 4) lo'
  have hwl := h.wl
  have hb : ∀ i, i ≠ w.heap.size + 4 → (wr.putObj (w.heap.size + 4) lo').heap[i]? = wr.heap[i]? := fun i hi => World.putObj_heap_other hi
  refine ⟨⟨S', hs.only o (fun i hi e => ?_) (fun i e => by rw [e]; omega), hr⟩, h.only.fresh o (fun i hi e => by omega), (hb _ (by omega)).trans h.r0, (hb _ (by omega)).trans h.r1, (hb _ (by omega)).trans h.r2, (hb _ (by omega)).trans h.d, World.putObj_heap_same (by omega), h.sl, h.wl⟩
  subst e
  rcases hr _ hi with h3 | h3
  · have := h.sl _ h3; omega
  · omega
theorem EcAt.store (h : EcAt W w pa S s op lo k wr) : EcAt W w pa S s op lo k (wr.setCell ⟨w.heap.size + 2, 0, none⟩ (.int .i64 0)) := by
  obtain ⟨S', hs, hr⟩ := h.bs
  have hlt := h.lt
  have hwl := h.wl
  have o : Only (fun k => k = w.heap.size + 2) wr (wr.setCell ⟨w.heap.size + 2, 0, none⟩ (.int .i64 0)) := (Only.refl (fun k => k = w.heap.size + 2) wr).setCell (p := ⟨w.heap.size + 2, 0, none⟩) rfl _
  have hb : ∀ i, i < wr.heap.size → i ≠ w.heap.size + 2 → (wr.setCell ⟨w.heap.size + 2, 0, none⟩ (.int .i64 0)).heap[i]? = wr.heap[i]? := fun i hl hi => o.block i hl hi
  refine ⟨⟨S', hs.only o (fun i hi e => ?_) (fun i e => by rw [e]; omega), hr⟩, h.only.fresh o (fun i hi e => by omega), (hb _ (by omega) (by omega)).trans h.r0, (hb _ (by omega) (by omega)).trans h.r1, ?_, (hb _ (by omega) (by omega)).trans h.d, (hb _ (by omega) (by omega)).trans h.l, h.sl, h.wl⟩
  · subst e
    rcases hr _ hi with h3 | h3
    · have := h.sl _ h3; omega
    · omega
  · have h2 := h.r2
    simp only [World.setCell, Array.getElem?_modify, h2]
    simp
theorem EcAt.fin (h : EcAt W w pa S s op lo k wr) (o' : Obj) : BsGo W w pa S (s.each op k) (wr.putObj (w.heap.size + 3) o') := by
  obtain ⟨S', hs, hr⟩ := h.bs
  have hwl := h.wl
  have o := only_putObj wr (w.heap.size + 3) o'
  refine ⟨S', hs.only o (fun i hi e => ?_) (fun i e => by rw [e]; omega), h.only.fresh o (fun i hi e => by omega), fun i hi => (hr i hi).imp id (fun h2 => by omega)⟩
  subst e
  rcases hr _ hi with h3 | h3
  · have := h.sl _ h3; omega
  · omega
end
theorem frame_any (w : World) : Calls Tryz.prog 300 #[] w fun e w' => e = .returned (.func (.func 307) #[] #[]) ∧ w = w' := by
  go_enter Tryz.func300, Tryz.ntmps300
  go_wp2
  go_ret
  exact ⟨rfl, rfl⟩
set_option maxRecDepth 100000 in
set_option maxHeartbeats 4000000 in
/-- The registers of a frame, one by one. -/
theorem frame_calls (n : Nat) (hn : 1 ≤ n) (l : Nat) (J : Nat → World → Prop)
    (hY : ∀ k W1, k < 16 → J k W1 → YieldAt Fence.wide (n - 1) Tryz.prog l #[.int .u8 ((k : Int) + 16), .int .i32 (4 * (k : Int))] W1 fun e W' => e = .returned (.bool true) ∧ J (k + 1) W')
    (W : World) (h0 : J 0 W) :
    CallsIn Fence.wide n Tryz.prog 307 #[.func (.yield l) #[] #[]] W fun e W' => (∃ v, e = .returned v) ∧ J 16 W' := by
  refine callsIn_of_wp Tryz.func307 rfl trivial ?_ rfl
  simp only [Tryz.ntmps307, List.size_toArray, List.length_cons, List.length_nil, Nat.reduceAdd, Nat.reduceSub, Array.replicate_succ, Array.replicate_zero, List.push_toArray, List.append_toArray, List.nil_append, List.cons_append]
  gi_wp2
  gi_loopw [2] (fun i wr => ∃ k : Nat, k ≤ 16 ∧ i = .int .u8 ((k : Int) + 16) ∧ Hid (J k wr)) (fun i _ => 32 - (intOf i).toNat)
  case atStart => exact ⟨0, by omega, rfl, h0⟩
  case round =>
    obtain ⟨k, hk, rfl, hJ⟩ := hrel
    have HJ : Hid (J k wr) := hJ.out
    clear hJ
    by_cases hlt : k < 16
    · have g1 : (k : Int) + 16 < 32 := by omega
      have e1 : IntKind.u8.wrap ((k : Int) + 16 - 16) = (k : Int) := by rw [IntWalk.u8_in _ (by omega)]; omega
      have e2 : IntKind.i32.wrap ((k : Int) * 4) = 4 * (k : Int) := by rw [IntWalk.i32_in _ (by omega)]; omega
      have e3 : IntKind.u8.wrap ((k : Int) + 16 + 1) = ((k + 1 : Nat) : Int) + 16 := by rw [IntWalk.u8_in _ (by omega)]; omega
      gi_wp2
      obtain ⟨fn, tmps, assign, body, hy0, hR⟩ := hY k wr hlt HJ.out
      rw [show Sem.run Tryz.prog (Instr.yield l #[.int .u8 ((k : Int) + 16), .int .i32 (4 * (k : Int))]) wr = .ok (Next.round l fn tmps assign body) wr from hy0]
      clear hy0
      gi_wp2
      refine hR.mono ?_
      rintro e W3 ⟨rfl, hJ3⟩
      have HJ3 : Hid (J (k + 1) W3) := hJ3
      clear hJ3
      gi_wp2
      go_roundw
      case rel => exact ⟨k + 1, by omega, by first | rfl | go_num, HJ3.out⟩
      case measure => simp [intOf] <;> omega
    · obtain rfl : k = 16 := by omega
      have g1 : ¬ (((16 : Nat) : Int) + 16 < 32) := by omega
      gi_wp2_with (refine ⟨fun _ h => (by cases h), ?_⟩)
      go_end0
      exact ⟨⟨_, rfl⟩, HJ.out⟩
theorem each_Ls (s : Bs) (op : Int) (k : Nat) : (s.each op (k + 1)) = (s.each op k).put [eachI op k] := rfl
set_option maxRecDepth 100000 in
set_option maxHeartbeats 8000000 in
theorem weach_any {W w : World} {pa : Nat} {S : Nat → Prop} {s : Bs} (h : BsAt W w pa S s) {op : Int} (hop : op = 23 ∨ op = 22) (hL : s.L.length + 20 < 4294967296) :
    Calls Tryz.prog 270 #[.pointer (some ⟨pa, 0, none⟩), .int .u8 op] w fun e w' => e = .returned (.int .i64 0) ∧ BsGo W w pa S (s.each op 16) w' := by
  refine (callsIn_wide (n := 20)).1 ?_
  refine callsIn_of_wp_marks Tryz.func270 rfl trivial ?_ rfl
  simp only [Tryz.ntmps270, List.size_toArray, List.length_cons, List.length_nil, Nat.reduceAdd, Nat.reduceSub, Array.replicate_succ, Array.replicate_zero, List.push_toArray, List.append_toArray, List.nil_append, List.cons_append]
  gi_wp2_with fail
  refine ⟨trivial, (callsIn_wide.2 (frame_any _)).mono ?_⟩
  rintro e W2 ⟨rfl, rfl⟩
  gi_wp2_with fail
  have HS := ahid (fun lo => EcAt.start (op := op) h lo)
  have hsz3 : (((w.alloc (.cells #[.pointer (some ⟨pa, 0, none⟩)] 119)).alloc (.cells #[.int .u8 op] 5)).alloc (.cells #[.int .i64 0] 31)).heap.size = w.heap.size + 3 := by simp
  have HH := ahid h
  clear h
  revert HS hsz3
  generalize (((w.alloc (.cells #[.pointer (some ⟨pa, 0, none⟩)] 119)).alloc (.cells #[.int .u8 op] 5)).alloc (.cells #[.int .i64 0] 31)) = W2
  intro HS hsz3
  refine range_outer rfl (by omega) (gf := 307) (lb := #[]) rfl trivial (enters_of Tryz.func307 (by kernel_rfl) rfl) ?_
  intro fn rec hfn hrec
  rw [hsz3]
  have HOP := ahid hop
  obtain ⟨J, HJ⟩ : ∃ J : Nat → World → Prop, Hid (∀ k W', J k W' ↔ EcAt W w pa S s op (.loop (rec .ready none)) k W') := ⟨_, ahid fun _ _ => Iff.rfl⟩
  refine (frame_calls 19 (by omega) (w.heap.size + 4) J ?round _ ?start).mono ?behind
  case start => exact (HJ.out _ _).2 (HS.out _)
  case round =>
    intro k W1 hk hJ
    have HE := ahid ((HJ.out _ _).1 hJ)
    clear hJ
    refine one_round hfn hrec HE.out.l rfl ?_
    gi_wp2_with fail
    refine ⟨HE.out.l, ?_⟩
    have HB := ahid (HE.out.put (.loop (rec .busy none)))
    generalize W1.putObj (w.heap.size + 4) (.loop (rec .busy none)) = W3 at HB ⊢
    have c0 := row_cell HB.out.r0 (j := 0) rfl
    have c1 := row_cell HB.out.r1 (j := 0) rfl
    have c2 : W3.cell? ⟨w.heap.size + 1 + 1, 0, none⟩ = some (.int .i64 0) := row_cell HB.out.r2 (j := 0) rfl
    obtain ⟨S', hs, hr⟩ := HB.out.bs
    have HHS := ahid hs
    have HHR := ahid hr
    clear hs hr hop
    gi_wp2_with fail
    have hok : allI [eachI op k] := by
      rcases HOP.out with e | e
      · rw [e]; exact (each_ok k hk).1
      · rw [e]; exact (each_ok k hk).2
    refine ⟨trivial, (CallsIn.inRound (w.heap.size + 4) (callsIn_wide.2 (bs_lit HHS.out (l := [eachI op k]) hok (by simp) (by rw [Bs.each_len]; simp; omega) (Below.refl _ _)))).mono ?_⟩
    rintro e W5 ⟨rfl, hg⟩
    have HE5 := ahid (HB.out.goes (k' := k + 1) HHR.out hg)
    clear hg hok c0 c1 c2
    have c2 : W5.cell? ⟨w.heap.size + 1 + 1, 0, none⟩ = some (.int .i64 0) := row_cell HE5.out.r2 (j := 0) rfl
    have f2 : W5.frozen? ⟨w.heap.size + 1 + 1, 0, none⟩ = false := row_frozen HE5.out.r2 0
    have HE6 := ahid HE5.out.store
    gi_wp2_with fail
    exact ⟨HE6.out.l, rfl, (HJ.out _ _).2 (HE6.out.put _)⟩
  case behind =>
    rintro e W3 ⟨⟨v, rfl⟩, hJ⟩
    have HE := ahid ((HJ.out _ _).1 hJ)
    clear hJ
    refine range_done hrec HE.out.l ?_
    have HB := ahid (HE.out.put (.loop (rec .exhausted none)))
    generalize W3.putObj (w.heap.size + 4) (.loop (rec .exhausted none)) = W4 at HB ⊢
    have c2 : W4.cell? ⟨w.heap.size + 1 + 1, 0, none⟩ = some (.int .i64 0) := row_cell HB.out.r2 (j := 0) rfl
    gi_wp2
    refine ⟨by simp, .inl ⟨_, _, rfl, run_takeDeferred HB.out.d, ?_⟩⟩
    refine ⟨.int .i64 0, ?_, rfl, HB.out.fin _⟩
    simp [results, Tryz.results270, go_sem]
    try rfl
theorem wstore_any {W w : World} {pa : Nat} {S : Nat → Prop} {s : Bs} (h : BsAt W w pa S s) (hL : s.L.length + 20 < 4294967296) :
    Calls Tryz.prog 217 #[.pointer (some ⟨pa, 0, none⟩)] w fun e w' => e = .returned (.int .i64 0) ∧ BsGo W w pa S (s.each 23 16) w' := by
  have H := ahid (weach_any h (op := 23) (.inl rfl) hL)
  clear h
  go_enter Tryz.func217, Tryz.ntmps217
  go_wp2_with fail
  refine H.out.mono ?_
  rintro e w1 ⟨rfl, hg⟩
  have HG := ahid hg
  clear hg
  go_wp2_with fail
  go_ret
  exact ⟨rfl, HG.out⟩
theorem wload_any {W w : World} {pa : Nat} {S : Nat → Prop} {s : Bs} (h : BsAt W w pa S s) (hL : s.L.length + 20 < 4294967296) :
    Calls Tryz.prog 219 #[.pointer (some ⟨pa, 0, none⟩)] w fun e w' => e = .returned (.int .i64 0) ∧ BsGo W w pa S (s.each 22 16) w' := by
  have H := ahid (weach_any h (op := 22) (.inr rfl) hL)
  clear h
  go_enter Tryz.func219, Tryz.ntmps219
  go_wp2_with fail
  refine H.out.mono ?_
  rintro e w1 ⟨rfl, hg⟩
  have HG := ahid hg
  clear hg
  go_wp2_with fail
  go_ret
  exact ⟨rfl, HG.out⟩
end Go.Proofs.YtkejnhleajfcjaaGreatDoor
/- Walks of the package wind: Over and Under. (Printed by genwind.py.) -/
namespace Go.Proofs.YtkejnhleajfcjaaGreatDoor
open Go.RowKit
set_option linter.unusedVariables false
set_option linter.unusedSimpArgs false
theorem over_ok : allI [⟨26, 3, 0, 0, false, 0⟩, aluI 5 4 3 31, aluI 1 4 4 2, ⟨16, 0, 4, 0, true, 0⟩] ∧ allI [aluI 0 4 0 0] := by decide
set_option maxRecDepth 100000 in
set_option maxHeartbeats 4000000 in
theorem wover_any {W w : World} {pa : Nat} {S : Nat → Prop} {s : Bs} (h : BsAt W w pa S s) {nw : Nat} (h2 : 2 ≤ nw) (h32 : nw ≤ 32) (hn : look s.M nmOver = none) (hn2 : look s.M nmOverIn = none) (hM : s.M.length + 10 < 4294967296) (hL : s.L.length + 100 < 4294967296) :
    Calls Tryz.prog 113 #[.pointer (some ⟨pa, 0, none⟩), .int .i64 (nw : Int)] w fun e w' => e = .returned (.int .i64 0) ∧ BsGo W w pa S (s.over nw) w' := by
  obtain ⟨s1, e1⟩ : ∃ x, x = s.mark nmOver := ⟨_, rfl⟩
  have M1 : s1.M = s.M ++ [(nmOver, (s.L.length : Int))] := by rw [e1]; rfl
  have L1 : s1.L.length = s.L.length := by rw [e1]; rfl
  obtain ⟨s2, e2⟩ : ∃ x, x = s1.turned nw 9 8 := ⟨_, rfl⟩
  have M2 : s2.M = s1.M := by rw [e2]; exact (Bs.turned_len _ _ _ _).2
  have L2 : s2.L.length ≤ s1.L.length + 7 := by rw [e2]; exact (Bs.turned_len _ _ _ _).1
  obtain ⟨s3, e3⟩ : ∃ x, x = s2.put [⟨26, 3, 0, 0, false, 0⟩, aluI 5 4 3 31, aluI 1 4 4 2, ⟨16, 0, 4, 0, true, 0⟩] := ⟨_, rfl⟩
  have L3 : s3.L.length = s2.L.length + 4 := by rw [e3]; exact Bs.put_len _ _
  have M3 : s3.M = s2.M := by rw [e3]; rfl
  obtain ⟨s4, e4⟩ : ∃ x, x = s3.jump 4 nmOverIn := ⟨_, rfl⟩
  have L4 : s4.L.length = s3.L.length + 1 := by rw [e4]; show (_ ++ [_]).length = _; simp
  have M4 : s4.M = s3.M := by rw [e4]; rfl
  obtain ⟨s5, e5⟩ : ∃ x, x = s4.put [aluI 0 4 4 nw] := ⟨_, rfl⟩
  have L5 : s5.L.length = s4.L.length + 1 := by rw [e5]; exact Bs.put_len _ _
  have M5 : s5.M = s4.M := by rw [e5]; rfl
  obtain ⟨s6, e6⟩ : ∃ x, x = s5.mark nmOverIn := ⟨_, rfl⟩
  have L6 : s6.L.length = s5.L.length := by rw [e6]; rfl
  obtain ⟨s7, e7⟩ : ∃ x, x = s6.put windowI := ⟨_, rfl⟩
  have L7 : s7.L.length = s6.L.length + 3 := by rw [e7]; exact Bs.put_len _ _
  obtain ⟨s8, e8⟩ : ∃ x, x = s7.each 23 16 := ⟨_, rfl⟩
  have L8 : s8.L.length = s7.L.length + 16 := by rw [e8]; exact Bs.each_len _ _ _
  obtain ⟨s9, e9⟩ : ∃ x, x = s8.put endI := ⟨_, rfl⟩
  have hfin : s.over nw = s9 := by rw [e9, e8, e7, e6, e5, e4, e3, e2, e1]; rfl
  rw [hfin]
  have hlk : look s5.M nmOverIn = none := by
    rw [M5, M4, M3, M2, M1, look_snoc, hn2]
    simp [nmOver, nmOverIn]
  have hM5 : s5.M.length ≤ s.M.length + 1 := by rw [M5, M4, M3, M2, M1]; simp
  have q1 : IntKind.i32.wrap (nw : Int) = (nw : Int) := IntWalk.i32_in _ (by omega)
  have q2 : wrap32 (nw : Int) = (nw : Int) := by unfold wrap32; omega
  have HB := ahid (wbegin_any h h2 h32 (nm := nmOver) (by decide) hn (by omega) (by omega))
  rw [← e1] at HB
  have HE := ahid (And.intro e2 (And.intro e3 (And.intro e4 (And.intro e5 (And.intro e6 (And.intro e7 (And.intro e8 e9)))))))
  have HLK := ahid hlk
  have hl : s1.L.length < 4294967196 ∧ s2.L.length < 4294967206 ∧ s3.L.length < 4294967210 ∧ s4.L.length < 4294967216 ∧ s5.L.length < 4294967220 ∧ s6.L.length < 4294967220 ∧ s7.L.length < 4294967224 ∧ s8.L.length < 4294967244 := by omega
  clear h hn hn2 hlk hfin e1 e2 e3 e4 e5 e6 e7 e8 e9 M1 M2 M3 M4 M5 L1 L2 L3 L4 L5 L6 L7 L8
  go_enter Tryz.func113, Tryz.ntmps113
  go_wp2_with fail
  refine HB.out.mono ?_
  rintro e w1 ⟨rfl, S1, h1, o1, r1⟩
  have H1 := ahid h1
  clear h1
  go_wp2_with fail
  refine (wturned_any H1.out h2 h32 (.inl ⟨rfl, rfl⟩) (by omega)).mono ?_
  rintro e w2 ⟨rfl, hg⟩
  rw [← HE.out.1] at hg
  obtain ⟨S2, h2', o2, r2⟩ := hg
  have H2 := ahid h2'
  clear h2'
  go_wp2_with fail
  refine (walu_any (op := 5) (by omega) w2).mono ?_
  rintro e v0 ⟨rfl, hb0⟩
  go_wp2_with fail
  refine (walu_any (op := 1) (by omega) v0).mono ?_
  rintro e v1 ⟨rfl, hb1⟩
  go_wp2_with fail
  have HV := ahid (hb0.trans (hb1.mono hb0.size))
  refine (bs_lit H2.out (l := [⟨26, 3, 0, 0, false, 0⟩, aluI 5 4 3 31, aluI 1 4 4 2, ⟨16, 0, 4, 0, true, 0⟩]) over_ok.1 (by simp) (by simp; omega) HV.out).mono ?_
  rintro e w3 ⟨rfl, hg⟩
  rw [← HE.out.2.1] at hg
  obtain ⟨S3, h3, o3, r3⟩ := hg
  have H3 := ahid h3
  clear h3 hb0 hb1
  go_wp2_with fail
  refine (bs_jump H3.out (c := 4) (nm := nmOverIn) (by omega) (by omega) (by decide) (by omega)).mono ?_
  rintro e w4 ⟨rfl, hg⟩
  rw [← HE.out.2.2.1] at hg
  obtain ⟨S4, h4, o4, r4⟩ := hg
  have H4 := ahid h4
  clear h4
  go_wp2_with fail
  refine (walu_any (op := 0) (by omega) w4).mono ?_
  rintro e u0 ⟨rfl, hc0⟩
  go_wp2_with fail
  refine (bs_lit H4.out (l := [aluI 0 4 4 nw]) (cmp_ok nw (by omega)).1 (by simp) (by simp; omega) hc0).mono ?_
  rintro e w5 ⟨rfl, hg⟩
  rw [← HE.out.2.2.2.1] at hg
  obtain ⟨S5, h5, o5, r5⟩ := hg
  have H5 := ahid h5
  clear h5 hc0
  go_wp2_with fail
  refine (bs_mark H5.out (nm := nmOverIn) (by decide) HLK.out (by omega) (by omega)).mono ?_
  rintro e w6 ⟨rfl, hg⟩
  rw [← HE.out.2.2.2.2.1] at hg
  obtain ⟨S6, h6, o6, r6⟩ := hg
  have H6 := ahid h6
  clear h6
  go_wp2_with fail
  refine (wwindow_any H6.out (by omega)).mono ?_
  rintro e w7 ⟨rfl, hg⟩
  rw [← HE.out.2.2.2.2.2.1] at hg
  obtain ⟨S7, h7, o7, r7⟩ := hg
  have H7 := ahid h7
  clear h7
  go_wp2_with fail
  refine (wstore_any H7.out (by omega)).mono ?_
  rintro e w8 ⟨rfl, hg⟩
  rw [← HE.out.2.2.2.2.2.2.1] at hg
  obtain ⟨S8, h8, o8, r8⟩ := hg
  have H8 := ahid h8
  clear h8
  go_wp2_with fail
  refine (wend_any H8.out (by omega)).mono ?_
  rintro e w9 ⟨rfl, hg⟩
  rw [← HE.out.2.2.2.2.2.2.2] at hg
  have HG := ahid (BsGo.then o1 r1 (BsGo.then o2 r2 (BsGo.then o3 r3 (BsGo.then o4 r4 (BsGo.then o5 r5 (BsGo.then o6 r6 (BsGo.then o7 r7 (BsGo.then o8 r8 hg))))))))
  clear hg
  go_wp2_with fail
  go_ret
  exact ⟨rfl, HG.out⟩
set_option maxRecDepth 100000 in
set_option maxHeartbeats 4000000 in
theorem wunder_any {W w : World} {pa : Nat} {S : Nat → Prop} {s : Bs} (h : BsAt W w pa S s) {nw : Nat} (h2 : 2 ≤ nw) (h32 : nw ≤ 32) (hn : look s.M nmUnder = none) (hn2 : look s.M nmUnderIn = none) (hM : s.M.length + 10 < 4294967296) (hL : s.L.length + 100 < 4294967296) :
    Calls Tryz.prog 114 #[.pointer (some ⟨pa, 0, none⟩), .int .i64 (nw : Int)] w fun e w' => e = .returned (.int .i64 0) ∧ BsGo W w pa S (s.under nw) w' := by
  obtain ⟨s1, e1⟩ : ∃ x, x = s.mark nmUnder := ⟨_, rfl⟩
  have M1 : s1.M = s.M ++ [(nmUnder, (s.L.length : Int))] := by rw [e1]; rfl
  have L1 : s1.L.length = s.L.length := by rw [e1]; rfl
  obtain ⟨s2, e2⟩ : ∃ x, x = s1.turned nw 8 9 := ⟨_, rfl⟩
  have M2 : s2.M = s1.M := by rw [e2]; exact (Bs.turned_len _ _ _ _).2
  have L2 : s2.L.length ≤ s1.L.length + 7 := by rw [e2]; exact (Bs.turned_len _ _ _ _).1
  obtain ⟨s3, e3⟩ : ∃ x, x = s2.put [⟨26, 3, 0, 0, false, 0⟩, aluI 5 4 3 31, aluI 0 4 4 1, ⟨16, 0, 4, 0, true, (nw : Int)⟩] := ⟨_, rfl⟩
  have L3 : s3.L.length = s2.L.length + 4 := by rw [e3]; exact Bs.put_len _ _
  have M3 : s3.M = s2.M := by rw [e3]; rfl
  obtain ⟨s4, e4⟩ : ∃ x, x = s3.jump 2 nmUnderIn := ⟨_, rfl⟩
  have L4 : s4.L.length = s3.L.length + 1 := by rw [e4]; show (_ ++ [_]).length = _; simp
  have M4 : s4.M = s3.M := by rw [e4]; rfl
  obtain ⟨s5, e5⟩ : ∃ x, x = s4.put [aluI 0 4 0 0] := ⟨_, rfl⟩
  have L5 : s5.L.length = s4.L.length + 1 := by rw [e5]; exact Bs.put_len _ _
  have M5 : s5.M = s4.M := by rw [e5]; rfl
  obtain ⟨s6, e6⟩ : ∃ x, x = s5.mark nmUnderIn := ⟨_, rfl⟩
  have L6 : s6.L.length = s5.L.length := by rw [e6]; rfl
  obtain ⟨s7, e7⟩ : ∃ x, x = s6.put windowI := ⟨_, rfl⟩
  have L7 : s7.L.length = s6.L.length + 3 := by rw [e7]; exact Bs.put_len _ _
  obtain ⟨s8, e8⟩ : ∃ x, x = s7.each 22 16 := ⟨_, rfl⟩
  have L8 : s8.L.length = s7.L.length + 16 := by rw [e8]; exact Bs.each_len _ _ _
  obtain ⟨s9, e9⟩ : ∃ x, x = s8.put endI := ⟨_, rfl⟩
  have hfin : s.under nw = s9 := by rw [e9, e8, e7, e6, e5, e4, e3, e2, e1]; rfl
  rw [hfin]
  have hlk : look s5.M nmUnderIn = none := by
    rw [M5, M4, M3, M2, M1, look_snoc, hn2]
    simp [nmUnder, nmUnderIn]
  have hM5 : s5.M.length ≤ s.M.length + 1 := by rw [M5, M4, M3, M2, M1]; simp
  have q1 : IntKind.i32.wrap (nw : Int) = (nw : Int) := IntWalk.i32_in _ (by omega)
  have q2 : wrap32 (nw : Int) = (nw : Int) := by unfold wrap32; omega
  have HB := ahid (wbegin_any h h2 h32 (nm := nmUnder) (by decide) hn (by omega) (by omega))
  rw [← e1] at HB
  have HE := ahid (And.intro e2 (And.intro e3 (And.intro e4 (And.intro e5 (And.intro e6 (And.intro e7 (And.intro e8 e9)))))))
  have HLK := ahid hlk
  have hl : s1.L.length < 4294967196 ∧ s2.L.length < 4294967206 ∧ s3.L.length < 4294967210 ∧ s4.L.length < 4294967216 ∧ s5.L.length < 4294967220 ∧ s6.L.length < 4294967220 ∧ s7.L.length < 4294967224 ∧ s8.L.length < 4294967244 := by omega
  clear h hn hn2 hlk hfin e1 e2 e3 e4 e5 e6 e7 e8 e9 M1 M2 M3 M4 M5 L1 L2 L3 L4 L5 L6 L7 L8
  go_enter Tryz.func114, Tryz.ntmps114
  go_wp2_with fail
  refine HB.out.mono ?_
  rintro e w1 ⟨rfl, S1, h1, o1, r1⟩
  have H1 := ahid h1
  clear h1
  go_wp2_with fail
  refine (wturned_any H1.out h2 h32 (.inr ⟨rfl, rfl⟩) (by omega)).mono ?_
  rintro e w2 ⟨rfl, hg⟩
  rw [← HE.out.1] at hg
  obtain ⟨S2, h2', o2, r2⟩ := hg
  have H2 := ahid h2'
  clear h2'
  go_wp2_with fail
  refine (walu_any (op := 5) (by omega) w2).mono ?_
  rintro e v0 ⟨rfl, hb0⟩
  go_wp2_with fail
  refine (walu_any (op := 0) (by omega) v0).mono ?_
  rintro e v1 ⟨rfl, hb1⟩
  go_wp2_with fail
  have HV := ahid (hb0.trans (hb1.mono hb0.size))
  refine (bs_lit H2.out (l := [⟨26, 3, 0, 0, false, 0⟩, aluI 5 4 3 31, aluI 0 4 4 1, ⟨16, 0, 4, 0, true, (nw : Int)⟩]) (cmp_ok nw (by omega)).2 (by simp) (by simp; omega) HV.out).mono ?_
  rintro e w3 ⟨rfl, hg⟩
  rw [← HE.out.2.1] at hg
  obtain ⟨S3, h3, o3, r3⟩ := hg
  have H3 := ahid h3
  clear h3 hb0 hb1
  go_wp2_with fail
  refine (bs_jump H3.out (c := 2) (nm := nmUnderIn) (by omega) (by omega) (by decide) (by omega)).mono ?_
  rintro e w4 ⟨rfl, hg⟩
  rw [← HE.out.2.2.1] at hg
  obtain ⟨S4, h4, o4, r4⟩ := hg
  have H4 := ahid h4
  clear h4
  go_wp2_with fail
  refine (walu_any (op := 0) (by omega) w4).mono ?_
  rintro e u0 ⟨rfl, hc0⟩
  go_wp2_with fail
  refine (bs_lit H4.out (l := [aluI 0 4 0 0]) over_ok.2 (by simp) (by simp; omega) hc0).mono ?_
  rintro e w5 ⟨rfl, hg⟩
  rw [← HE.out.2.2.2.1] at hg
  obtain ⟨S5, h5, o5, r5⟩ := hg
  have H5 := ahid h5
  clear h5 hc0
  go_wp2_with fail
  refine (bs_mark H5.out (nm := nmUnderIn) (by decide) HLK.out (by omega) (by omega)).mono ?_
  rintro e w6 ⟨rfl, hg⟩
  rw [← HE.out.2.2.2.2.1] at hg
  obtain ⟨S6, h6, o6, r6⟩ := hg
  have H6 := ahid h6
  clear h6
  go_wp2_with fail
  refine (wwindow_any H6.out (by omega)).mono ?_
  rintro e w7 ⟨rfl, hg⟩
  rw [← HE.out.2.2.2.2.2.1] at hg
  obtain ⟨S7, h7, o7, r7⟩ := hg
  have H7 := ahid h7
  clear h7
  go_wp2_with fail
  refine (wload_any H7.out (by omega)).mono ?_
  rintro e w8 ⟨rfl, hg⟩
  rw [← HE.out.2.2.2.2.2.2.1] at hg
  obtain ⟨S8, h8, o8, r8⟩ := hg
  have H8 := ahid h8
  clear h8
  go_wp2_with fail
  refine (wend_any H8.out (by omega)).mono ?_
  rintro e w9 ⟨rfl, hg⟩
  rw [← HE.out.2.2.2.2.2.2.2] at hg
  have HG := ahid (BsGo.then o1 r1 (BsGo.then o2 r2 (BsGo.then o3 r3 (BsGo.then o4 r4 (BsGo.then o5 r5 (BsGo.then o6 r6 (BsGo.then o7 r7 (BsGo.then o8 r8 hg))))))))
  clear hg
  go_wp2_with fail
  go_ret
  exact ⟨rfl, HG.out⟩
end Go.Proofs.YtkejnhleajfcjaaGreatDoor
