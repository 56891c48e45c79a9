/- Several texts in one: PsrParts, PsrPack, PsrPackAny, PsrUnpack. -/
import Derived.Test.YtgdebchbdmogcaaGreatDoorGC
import Derived.RangeFuncNested
import Derived.RangeFuncBound
import Derived.RangeFuncCalls
import Derived.RangeFuncLeaves
import Derived.Shelf.Abstract
import Derived.Shelf.RegionOpen
import Derived.OwnWalkIn
import Derived.TacticsInMore
import Derived.LoopNIn
import Derived.LoopIn
import Derived.RegionIn
import Derived.Deep.RegionHeld
/- The parts of a state, gone over: the contract of psr.parts's function. -/
namespace Go.Proofs.YtgdebchbdmogcaaGreatDoor
open Go.RowKit Go.Shelf
set_option linter.unusedVariables false
set_option linter.unusedSimpArgs false
attribute [local go_sem] Oper.semAt_some
/-- How many bits a part has. -/
def bitsP (i : Fin 4) : Int := if i.val = 0 ∨ i.val = 2 then 5 else 4
abbrev encP (b : Nat) (i : Fin 4) : Array Value := #[.pointer (some ⟨b, i.val, none⟩), .int .i64 (bitsP i)]
set_option maxRecDepth 100000 in
set_option maxHeartbeats 4000000 in
/-- All four, in their order; or a part of them. -/
theorem parts_stops (n : Nat) (hn : 1 ≤ n) (c b : Nat) (w : World) (hc : w.cell? ⟨c, 0, none⟩ = some (.pointer (some ⟨b, 0, none⟩))) :
    SeqStopsK Fence.wide n Tryz.prog 116 #[.pointer (some ⟨c, 0, none⟩)] (encP b) (fun _ _ => True) (fun xs => xs = [0, 1, 2, 3]) (fun _ => True) 4 w := fun l J Jx W hW hAb _ hY h0 => by
  have hc' := (hW.cell (p := ⟨c, 0, none⟩) (World.block_lt_of_cell? _ _ hc)).trans hc
  refine callsIn_of_wp Tryz.func116 rfl trivial ?_ rfl
  simp only [Tryz.ntmps116, List.size_toArray, List.length_cons, List.length_nil, Nat.reduceAdd, Nat.reduceSub, Array.replicate_succ, Array.replicate_zero, List.push_toArray, List.append_toArray, List.nil_append, List.cons_append]
  have ix0 : ∀ w, (Instr.index 169 (.agg #[.pointer (some ⟨b, 0, none⟩), .pointer (some ⟨b, 1, none⟩), .pointer (some ⟨b, 2, none⟩), .pointer (some ⟨b, 3, none⟩)]) (.int .i64 0)).run Tryz.prog w = .ok (.pointer (some ⟨b, 0, none⟩)) w := fun _ => by kernel_rfl
  have iy0 : ∀ w, (Instr.index 170 (.agg #[.int .i64 5, .int .i64 4, .int .i64 5, .int .i64 4]) (.int .i64 0)).run Tryz.prog w = .ok (.int .i64 5) w := fun _ => by kernel_rfl
  have ix1 : ∀ w, (Instr.index 169 (.agg #[.pointer (some ⟨b, 0, none⟩), .pointer (some ⟨b, 1, none⟩), .pointer (some ⟨b, 2, none⟩), .pointer (some ⟨b, 3, none⟩)]) (.int .i64 1)).run Tryz.prog w = .ok (.pointer (some ⟨b, 1, none⟩)) w := fun _ => by kernel_rfl
  have iy1 : ∀ w, (Instr.index 170 (.agg #[.int .i64 5, .int .i64 4, .int .i64 5, .int .i64 4]) (.int .i64 1)).run Tryz.prog w = .ok (.int .i64 4) w := fun _ => by kernel_rfl
  have ix2 : ∀ w, (Instr.index 169 (.agg #[.pointer (some ⟨b, 0, none⟩), .pointer (some ⟨b, 1, none⟩), .pointer (some ⟨b, 2, none⟩), .pointer (some ⟨b, 3, none⟩)]) (.int .i64 2)).run Tryz.prog w = .ok (.pointer (some ⟨b, 2, none⟩)) w := fun _ => by kernel_rfl
  have iy2 : ∀ w, (Instr.index 170 (.agg #[.int .i64 5, .int .i64 4, .int .i64 5, .int .i64 4]) (.int .i64 2)).run Tryz.prog w = .ok (.int .i64 5) w := fun _ => by kernel_rfl
  have ix3 : ∀ w, (Instr.index 169 (.agg #[.pointer (some ⟨b, 0, none⟩), .pointer (some ⟨b, 1, none⟩), .pointer (some ⟨b, 2, none⟩), .pointer (some ⟨b, 3, none⟩)]) (.int .i64 3)).run Tryz.prog w = .ok (.pointer (some ⟨b, 3, none⟩)) w := fun _ => by kernel_rfl
  have iy3 : ∀ w, (Instr.index 170 (.agg #[.int .i64 5, .int .i64 4, .int .i64 5, .int .i64 4]) (.int .i64 3)).run Tryz.prog w = .ok (.int .i64 4) w := fun _ => by kernel_rfl
  gi_wp2
  refine wpIn_wide.2 ?_
  go_quiet (fail)
  have hJ1 : J [] (W.drewN nq) := hAb [] _ _ none h0 ⟨rfl, rfl, rfl, Nat.le_refl _, fun _ _ _ => rfl⟩ (fun r e => by cases e)
  gi_wp2
  gi_loopw [18] (fun i wr => ∃ k : Nat, k ≤ 4 ∧ i = .int .i64 k ∧ J (([0, 1, 2, 3] : List (Fin 4)).take k) wr) (fun i _ => 4 - (intOf i).toNat)
  case atStart => exact ⟨0, by omega, rfl, hJ1⟩
  case round =>
    obtain ⟨k, hk, rfl, hJ⟩ := hrel
    have hk : k = 0 ∨ k = 1 ∨ k = 2 ∨ k = 3 ∨ k = 4 := by omega
    rcases hk with rfl | rfl | rfl | rfl | rfl
    · obtain ⟨fn, tmps, assign, body, hy0, hR⟩ := hY _ 0 wr hJ (by simp)
      have hy : Sem.run Tryz.prog (Instr.yield l #[.pointer (some ⟨b, 0, none⟩), .int .i64 5]) wr = .ok (Next.round l fn tmps assign body) wr := hy0
      clear hy0
      gi_wp2
      refine hR.mono ?_
      rintro e W3 (⟨rfl, hJ3, hk3⟩ | ⟨rfl, hJx3⟩)
      · gi_wp2
        go_roundw
        case rel => exact ⟨1, by omega, by go_num, hJ3⟩
        case measure => simp [intOf] <;> omega
      · gi_wp2
        refine bodyPost_ret (results_none rfl _ _ _) rfl ?_
        exact ⟨⟨_, rfl⟩, .inr ⟨_, trivial, hJx3⟩⟩
    · obtain ⟨fn, tmps, assign, body, hy0, hR⟩ := hY _ 1 wr hJ (by simp)
      have hy : Sem.run Tryz.prog (Instr.yield l #[.pointer (some ⟨b, 1, none⟩), .int .i64 4]) wr = .ok (Next.round l fn tmps assign body) wr := hy0
      clear hy0
      gi_wp2
      refine hR.mono ?_
      rintro e W3 (⟨rfl, hJ3, hk3⟩ | ⟨rfl, hJx3⟩)
      · gi_wp2
        go_roundw
        case rel => exact ⟨2, by omega, by go_num, hJ3⟩
        case measure => simp [intOf] <;> omega
      · gi_wp2
        refine bodyPost_ret (results_none rfl _ _ _) rfl ?_
        exact ⟨⟨_, rfl⟩, .inr ⟨_, trivial, hJx3⟩⟩
    · obtain ⟨fn, tmps, assign, body, hy0, hR⟩ := hY _ 2 wr hJ (by simp)
      have hy : Sem.run Tryz.prog (Instr.yield l #[.pointer (some ⟨b, 2, none⟩), .int .i64 5]) wr = .ok (Next.round l fn tmps assign body) wr := hy0
      clear hy0
      gi_wp2
      refine hR.mono ?_
      rintro e W3 (⟨rfl, hJ3, hk3⟩ | ⟨rfl, hJx3⟩)
      · gi_wp2
        go_roundw
        case rel => exact ⟨3, by omega, by go_num, hJ3⟩
        case measure => simp [intOf] <;> omega
      · gi_wp2
        refine bodyPost_ret (results_none rfl _ _ _) rfl ?_
        exact ⟨⟨_, rfl⟩, .inr ⟨_, trivial, hJx3⟩⟩
    · obtain ⟨fn, tmps, assign, body, hy0, hR⟩ := hY _ 3 wr hJ (by simp)
      have hy : Sem.run Tryz.prog (Instr.yield l #[.pointer (some ⟨b, 3, none⟩), .int .i64 4]) wr = .ok (Next.round l fn tmps assign body) wr := hy0
      clear hy0
      gi_wp2
      refine hR.mono ?_
      rintro e W3 (⟨rfl, hJ3, hk3⟩ | ⟨rfl, hJx3⟩)
      · gi_wp2
        go_roundw
        case rel => exact ⟨4, by omega, by go_num, hJ3⟩
        case measure => simp [intOf] <;> omega
      · gi_wp2
        refine bodyPost_ret (results_none rfl _ _ _) rfl ?_
        exact ⟨⟨_, rfl⟩, .inr ⟨_, trivial, hJx3⟩⟩
    · gi_wp2
      go_end0
      exact ⟨⟨_, rfl⟩, .inl ⟨_, rfl, hJ⟩⟩
set_option maxHeartbeats 1000000 in
theorem parts_any (p : Option Addr) (w : World) : Calls Tryz.prog 94 #[.pointer p] w fun e w' => e = .returned (.func (.func 116) #[] #[.pointer (some ⟨w.heap.size, 0, none⟩)]) ∧ w.alloc (.cells #[.pointer p] 144) = w' := by
  go_enter Tryz.func94, Tryz.ntmps94
  go_wp2
  go_ret
  exact ⟨rfl, rfl⟩
end Go.Proofs.YtgdebchbdmogcaaGreatDoor
/- The walk of psr.Pack. -/
namespace Go.Proofs.YtgdebchbdmogcaaGreatDoor
open Go.RowKit Go.Shelf
set_option linter.unusedVariables false
set_option linter.unusedSimpArgs false
attribute [local go_sem] Oper.semAt_some
theorem pcal {w : World} {o : Obj} {p : Addr} {v : Value} (h : w.cell? p = some v) : (w.alloc o).cell? p = some v := ((pbal w o).cell (World.block_lt_of_cell? _ _ h)).trans h
def partP (p : Px) (i : Fin 4) : Int := if i.val = 0 then p.cwp else if i.val = 1 then p.pil else if i.val = 2 then p.bank else p.flags
/-- What is laid when some parts have come. -/
def stP (p : Px) (x : Int × Int) (i : Fin 4) : Int × Int := (bits .or .u32 x.1 (partP p i * 2 ^ x.2.toNat % 4294967296), x.2 + bitsP i)
def accP (p : Px) (pre : List (Fin 4)) : Int × Int := pre.foldl (stP p) (0, 0)
theorem accP_snoc (p : Px) (pre : List (Fin 4)) (i : Fin 4) : accP p (pre ++ [i]) = stP p (accP p pre) i := by unfold accP; rw [List.foldl_append]; rfl
/-- A number put behind another one is a sum. -/
theorem por_add {a b : Int} (k : Nat) (hk : k ≤ 32) (ha : 0 ≤ a) (ha2 : a < 2 ^ k) (hb : 0 ≤ b) (hb2 : b < 4294967296) (hd : b % 2 ^ k = 0) : bits .or .u32 a b = a + b := by
  obtain ⟨A, rfl⟩ := Int.eq_ofNat_of_zero_le ha
  obtain ⟨B, rfl⟩ := Int.eq_ofNat_of_zero_le hb
  have hp : (2 : Int) ^ k = ((2 ^ k : Nat) : Int) := by simp
  rw [hp] at hd ha2
  have hp2 : 2 ^ k ≤ 2 ^ 32 := Nat.pow_le_pow_right (by omega) hk
  have hA : A < 2 ^ k := by omega
  have hB : 2 ^ k * (B / 2 ^ k) = B := by
    have h1 : B % 2 ^ k = 0 := by omega
    have h2 := Nat.div_add_mod B (2 ^ k)
    omega
  rw [u32_or _ _ (by omega) (by omega) (by omega) hb2]
  simp only [Int.toNat_natCast]
  rw [Nat.or_comm, ← hB, ← Nat.two_pow_add_eq_or_of_lt hA]
  omega
theorem accP_all {p : Px} {nw : Int} (hb : p.bd) (hw : winP nw) (hm : pmayP p nw) : (accP p [0, 1, 2, 3]).1 = packW p := by
  obtain ⟨cwp, pil, bank, flags⟩ := p
  obtain ⟨⟨a, _⟩, ⟨b, _⟩, ⟨c, _⟩, ⟨d, _⟩⟩ := hb
  obtain ⟨h1, h2, h3, h4⟩ := hm
  obtain ⟨_, hw⟩ := hw
  simp only at *
  show bits .or .u32 (bits .or .u32 (bits .or .u32 (bits .or .u32 0 (cwp * 2 ^ 0 % 4294967296)) (pil * 2 ^ 5 % 4294967296)) (bank * 2 ^ 9 % 4294967296)) (flags * 2 ^ 14 % 4294967296) = packW ⟨cwp, pil, bank, flags⟩
  rw [por_add (a := 0) (b := cwp * 2 ^ 0 % 4294967296) 0 (by omega) (by omega) (by omega) (by omega) (by omega) (by omega)]
  rw [por_add (a := 0 + cwp * 2 ^ 0 % 4294967296) 5 (by omega) (by omega) (by omega) (by omega) (by omega) (by omega)]
  rw [por_add (b := bank * 2 ^ 9 % 4294967296) 9 (by omega) (by omega) (by omega) (by omega) (by omega) (by omega)]
  rw [por_add 14 (by omega) (by omega) (by omega) (by omega) (by omega) (by omega)]
  unfold packW; simp only; omega
theorem pack_round {n b g : Nat} {w W : World} {c0 c1 c2 c3 a' t' : Value} (hn : n ≤ g) (hbg : b < g)
    (hp : W.cell? ⟨b, 0, none⟩ = some c0 ∧ W.cell? ⟨b, 1, none⟩ = some c1 ∧ W.cell? ⟨b, 2, none⟩ = some c2 ∧ W.cell? ⟨b, 3, none⟩ = some c3)
    {a t : Value} (ha : W.cell? ⟨g, 0, none⟩ = some a) (hfa : W.frozen? ⟨g, 0, none⟩ = false) (ht : W.cell? ⟨g + 1, 0, none⟩ = some t) (hft : W.frozen? ⟨g + 1, 0, none⟩ = false) (hB : Below n w W) :
    ((((((W.setCell ⟨g, 0, none⟩ a').setCell ⟨g + 1, 0, none⟩ t').drew).cell? ⟨b, 0, none⟩ = some c0 ∧ (((W.setCell ⟨g, 0, none⟩ a').setCell ⟨g + 1, 0, none⟩ t').drew).cell? ⟨b, 1, none⟩ = some c1 ∧ (((W.setCell ⟨g, 0, none⟩ a').setCell ⟨g + 1, 0, none⟩ t').drew).cell? ⟨b, 2, none⟩ = some c2 ∧ (((W.setCell ⟨g, 0, none⟩ a').setCell ⟨g + 1, 0, none⟩ t').drew).cell? ⟨b, 3, none⟩ = some c3) ∧
      ((((W.setCell ⟨g, 0, none⟩ a').setCell ⟨g + 1, 0, none⟩ t').drew).cell? ⟨g, 0, none⟩ = some a' ∧ (((W.setCell ⟨g, 0, none⟩ a').setCell ⟨g + 1, 0, none⟩ t').drew).frozen? ⟨g, 0, none⟩ = false) ∧
      ((((W.setCell ⟨g, 0, none⟩ a').setCell ⟨g + 1, 0, none⟩ t').drew).cell? ⟨g + 1, 0, none⟩ = some t' ∧ (((W.setCell ⟨g, 0, none⟩ a').setCell ⟨g + 1, 0, none⟩ t').drew).frozen? ⟨g + 1, 0, none⟩ = false))) ∧ Below n w (((W.setCell ⟨g, 0, none⟩ a').setCell ⟨g + 1, 0, none⟩ t').drew) := by
  have far : ∀ i, (((W.setCell ⟨g, 0, none⟩ a').setCell ⟨g + 1, 0, none⟩ t').drew).cell? ⟨b, i, none⟩ = W.cell? ⟨b, i, none⟩ := by
    intro i
    show ((W.setCell ⟨g, 0, none⟩ a').setCell ⟨g + 1, 0, none⟩ t').cell? ⟨b, i, none⟩ = _
    rw [World.cell?_setCell_far _ _ _ _ (by show g + 1 ≠ b; omega), World.cell?_setCell_far _ _ _ _ (by show g ≠ b; omega)]
  have h1 : (W.setCell ⟨g, 0, none⟩ a').cell? ⟨g + 1, 0, none⟩ = some t := by
    rw [World.cell?_setCell_far _ _ _ _ (by show g ≠ g + 1; omega)]; exact ht
  refine ⟨⟨⟨?_, ?_, ?_, ?_⟩, ⟨?_, ?_⟩, ⟨?_, ?_⟩⟩, ?_⟩
  · rw [far]; exact hp.1
  · rw [far]; exact hp.2.1
  · rw [far]; exact hp.2.2.1
  · rw [far]; exact hp.2.2.2
  · show ((W.setCell ⟨g, 0, none⟩ a').setCell ⟨g + 1, 0, none⟩ t').cell? ⟨g, 0, none⟩ = _
    rw [World.cell?_setCell_far _ _ _ _ (by show g + 1 ≠ g; omega)]
    exact World.cell?_setCell_same' _ _ _ (by rw [ha]; rfl)
  · show ((W.setCell ⟨g, 0, none⟩ a').setCell ⟨g + 1, 0, none⟩ t').frozen? ⟨g, 0, none⟩ = _
    rw [World.frozen?_setCell, World.frozen?_setCell]; exact hfa
  · show ((W.setCell ⟨g, 0, none⟩ a').setCell ⟨g + 1, 0, none⟩ t').cell? ⟨g + 1, 0, none⟩ = _
    exact World.cell?_setCell_same' _ _ _ (by rw [h1]; rfl)
  · show ((W.setCell ⟨g, 0, none⟩ a').setCell ⟨g + 1, 0, none⟩ t').frozen? ⟨g + 1, 0, none⟩ = _
    rw [World.frozen?_setCell, World.frozen?_setCell]; exact hft
  · exact ((hB.setCell (p := ⟨g, 0, none⟩) hn _).setCell (p := ⟨g + 1, 0, none⟩) (by show n ≤ g + 1; omega) _).drew
theorem partP_bd {p : Px} (hb : p.bd) (i : Fin 4) : 0 ≤ partP p i ∧ partP p i < 256 := by
  obtain ⟨h0, h1, h2, h3⟩ := hb
  unfold partP; split
  · exact h0
  · split
    · exact h1
    · split
      · exact h2
      · exact h3
theorem bitsP_bd (i : Fin 4) : 4 ≤ bitsP i ∧ bitsP i ≤ 5 := by unfold bitsP; split <;> omega
theorem por_bd {a b : Int} (h : 0 ≤ a) (h' : a < 4294967296) (k : 0 ≤ b) (k' : b < 4294967296) : 0 ≤ bits .or .u32 a b ∧ bits .or .u32 a b < 4294967296 := by
  rw [u32_or a b h h' k k']
  have := Nat.or_lt_two_pow (x := a.toNat) (y := b.toNat) (n := 32) (by omega) (by omega)
  omega
theorem accP_bd (p : Px) (l : List (Fin 4)) : ∀ x : Int × Int, 0 ≤ x.1 ∧ x.1 < 4294967296 → (0 ≤ (l.foldl (stP p) x).1 ∧ (l.foldl (stP p) x).1 < 4294967296) ∧ x.2 ≤ (l.foldl (stP p) x).2 ∧ (l.foldl (stP p) x).2 ≤ x.2 + 5 * l.length := by
  induction l with
  | nil => intro x hx; exact ⟨hx, Int.le_refl _, by simp⟩
  | cons i l ih =>
    intro x hx
    have hi := bitsP_bd i
    have h := ih (stP p x i) (por_bd hx.1 hx.2 (by omega) (by omega))
    simp only [List.foldl_cons, List.length_cons]
    refine ⟨h.1, ?_, ?_⟩
    · have := h.2.1; simp only [stP] at this ⊢; omega
    · have := h.2.2; simp only [stP] at this ⊢; omega
set_option maxRecDepth 100000 in
set_option maxHeartbeats 4000000 in
theorem pack_yes (p : Px) (hb : p.bd) (nw : Int) (hw : winP nw) (hm : pmayP p nw) (w : World) :
    Calls Tryz.prog 57 #[p.agg, .int .i64 nw] w fun e w' => e = .returned (.tuple #[.int .u32 (packW p), .int .i64 0]) ∧ Below w.heap.size w w' := by
  have h1 := windows_any nw
  rw [decide_eq_true hw] at h1
  have h2 := pmay_any p hb nw
  rw [decide_eq_true hm] at h2
  have H1 := phid h1
  have H2 := phid h2
  clear h1 h2
  have HB := phid hb
  clear hb
  obtain ⟨cwp, pil, bank, flags⟩ := p
  refine (callsIn_wide (n := 6)).1 ?_
  refine callsIn_of_wp_marks Tryz.func57 rfl trivial ?_ rfl
  simp only [Tryz.ntmps57, List.size_toArray, List.length_cons, List.length_nil, Nat.reduceAdd, Nat.reduceSub, Array.replicate_succ, Array.replicate_zero, List.push_toArray, List.append_toArray, List.nil_append, List.cons_append]
  gi_wp2_with fail
  refine ⟨trivial, (callsIn_wide.2 (H1.out _)).mono ?_⟩
  rintro e w' ⟨rfl, rfl⟩
  gi_wp2_with fail
  refine ⟨trivial, (callsIn_wide.2 (H2.out _)).mono ?_⟩
  rintro e w1 ⟨rfl, hb1⟩
  have hc0 := hb1.cell (p := ⟨w.heap.size, 0, none⟩) (by simp)
  have hc1 := hb1.cell (p := ⟨w.heap.size, 1, none⟩) (by simp)
  have hc2 := hb1.cell (p := ⟨w.heap.size, 2, none⟩) (by simp)
  have hc3 := hb1.cell (p := ⟨w.heap.size, 3, none⟩) (by simp)
  simp at hc0 hc1 hc2 hc3
  have hlt : w.heap.size < w1.heap.size := by have := hb1.size; simp at this; omega
  have B1 := phid (pbt (pbal w _) hb1)
  clear hb1
  gi_wp2_with fail
  refine ⟨trivial, (callsIn_wide.2 (parts_any _ _)).mono ?_⟩
  rintro e w' ⟨rfl, rfl⟩
  gi_wp2_with fail
  have BW : Below w.heap.size w (((w1.alloc (.cells #[.int .u32 0] 22)).alloc (.cells #[.int .i64 0] 3)).alloc (.cells #[.pointer (some ⟨w.heap.size, 0, none⟩)] 144)) :=
    pbt (pbt (pbt B1.out (pbal _ _)) (pbal _ _)) (pbal _ _)
  refine wpIn_rangeFunc_ownF rfl (by omega) (gf := 116) (lb := #[.pointer (some ⟨w1.heap.size + 1 + 1, 0, none⟩)]) rfl trivial (enters_of Tryz.func116 (by kernel_rfl) rfl)
    (parts_stops 5 (by omega) (w1.heap.size + 1 + 1) w.heap.size _ (by simp [go_sem])) (fun _ _ => trivial) (fun _ _ _ _ _ _ _ _ => trivial) (Below.refl _ _) (fun _ => rfl)
    (fun pre W => ((W.cell? ⟨w.heap.size, 0, none⟩ = some (.int .u8 cwp) ∧ W.cell? ⟨w.heap.size, 1, none⟩ = some (.int .u8 pil) ∧ W.cell? ⟨w.heap.size, 2, none⟩ = some (.int .u8 bank) ∧ W.cell? ⟨w.heap.size, 3, none⟩ = some (.int .u8 flags)) ∧
      (W.cell? ⟨w1.heap.size, 0, none⟩ = some (.int .u32 (accP ⟨cwp, pil, bank, flags⟩ pre).1) ∧ W.frozen? ⟨w1.heap.size, 0, none⟩ = false) ∧
      (W.cell? ⟨w1.heap.size + 1, 0, none⟩ = some (.int .i64 (accP ⟨cwp, pil, bank, flags⟩ pre).2) ∧ W.frozen? ⟨w1.heap.size + 1, 0, none⟩ = false)) ∧ Below w.heap.size w W)
    (fun _ _ _ => False)
    (OwnFrom.and (Own.from (fun s A B row hs hg hr => ⟨⟨cell_kept hs.1.1 hg hr, cell_kept hs.1.2.1 hg hr, cell_kept hs.1.2.2.1 hg hr, cell_kept hs.1.2.2.2 hg hr⟩, ⟨cell_kept hs.2.1.1 hg hr, (frozen_kept hs.2.1.1 hg hr).trans hs.2.1.2⟩, ⟨cell_kept hs.2.2.1 hg hr, (frozen_kept hs.2.2.1 hg hr).trans hs.2.2.2⟩⟩) _) (ownFrom_below (Nat.le_refl _) (by simp; omega)))
    (fun _ _ _ _ _ hs _ _ => hs)
    ⟨⟨⟨pcal (pcal (pcal hc0)), pcal (pcal (pcal hc1)), pcal (pcal (pcal hc2)), pcal (pcal (pcal hc3))⟩, ⟨by simp [go_sem, accP], by simp [go_sem]⟩, ⟨by simp [go_sem, accP], by simp [go_sem]⟩⟩, BW⟩
    (fun x => { tmps := #[.agg #[.int .u8 cwp, .int .u8 pil, .int .u8 bank, .int .u8 flags], .int .i64 nw, .pointer (some ⟨w.heap.size, 0, none⟩), undef, .int .u32 0, .int .i64 0, .pointer (some ⟨w1.heap.size, 0, none⟩), .pointer (some ⟨w1.heap.size + 1, 0, none⟩), .pointer (some ⟨w.heap.size, x.val, none⟩), .int .i64 (bitsP x), .int .i64 nw, .bool true, .bool false, .bool false, .agg #[.int .u8 cwp, .int .u8 pil, .int .u8 bank, .int .u8 flags], .int .i64 nw, .bool true, .bool false, .bool false, .func (.func 116) #[] #[.pointer (some ⟨w1.heap.size + 1 + 1, 0, none⟩)], .pointer (some ⟨w.heap.size, x.val, none⟩), .int .i64 (bitsP x), undef, undef, undef, undef, undef, undef, undef, undef, undef, undef, undef, undef], defers := [] }) ?assign ?body ?done ?stop
  case assign =>
    intro l x W K hK
    gi_wp2
    exact hK
  case body =>
    rintro l pre x W ⟨⟨⟨p0, p1, p2, p3⟩, ⟨ha, hfa⟩, ⟨ht, hft⟩⟩, hB⟩ hlen
    have hpart : W.cell? ⟨w.heap.size, x.val, none⟩ = some (.int .u8 (partP ⟨cwp, pil, bank, flags⟩ x)) := by
      match x with
      | 0 => exact p0
      | 1 => exact p1
      | 2 => exact p2
      | 3 => exact p3
    have hbd := accP_bd ⟨cwp, pil, bank, flags⟩ pre (0, 0) ⟨by simp, by simp⟩
    have hpb := partP_bd HB.out x
    have hbb := bitsP_bd x
    have hs1 : (accP ⟨cwp, pil, bank, flags⟩ (pre ++ [x])).1 = bits .or .u32 (accP ⟨cwp, pil, bank, flags⟩ pre).1 (partP ⟨cwp, pil, bank, flags⟩ x * 2 ^ (accP ⟨cwp, pil, bank, flags⟩ pre).2.toNat % 4294967296) := by rw [accP_snoc]; rfl
    have hs2 : (accP ⟨cwp, pil, bank, flags⟩ (pre ++ [x])).2 = (accP ⟨cwp, pil, bank, flags⟩ pre).2 + bitsP x := by rw [accP_snoc]; rfl
    have P4 := phid (And.intro p0 (And.intro p1 (And.intro p2 p3)))
    have hB' := phid hB
    have hbd2 : (0 : Int) ≤ (accP ⟨cwp, pil, bank, flags⟩ pre).2 ∧ (accP ⟨cwp, pil, bank, flags⟩ pre).2 ≤ 0 + 5 * (pre.length : Int) := hbd.2
    have hbd1 : (0 : Int) ≤ (accP ⟨cwp, pil, bank, flags⟩ pre).1 ∧ (accP ⟨cwp, pil, bank, flags⟩ pre).1 < 4294967296 := hbd.1
    clear p0 p1 p2 p3 hB hbd
    generalize partP ⟨cwp, pil, bank, flags⟩ x = v at hpart hpb hs1
    generalize (accP ⟨cwp, pil, bank, flags⟩ pre).1 = a at ha hs1 hbd1
    generalize (accP ⟨cwp, pil, bank, flags⟩ pre).2 = t at ht hs1 hs2 hbd2
    have HS := phid (And.intro hs1 hs2)
    clear hs1 hs2
    have hmix : Tryz.prog.follows .mixedOrders = true := by kernel_rfl
    gi_wp2
    gi_region_with_o (fail)
    all_goals gi_wp2
    all_goals
      refine ⟨KeepsOthers.trans (KeepsOthers.trans (KeepsOthers.setCell _ _ _) (KeepsOthers.setCell _ _ _)) (KeepsOthers.drew _), trivial, ?_⟩
      have e := pack_round (a' := .int .u32 (bits .or .u32 a (v * 2 ^ t.toNat % 4294967296))) (t' := .int .i64 (t + bitsP x)) (Nat.le_of_lt hlt) hlt P4.out ha hfa ht hft hB'.out
      rw [← HS.out.1, ← HS.out.2] at e ⊢
      exact e
  case done =>
    rintro D ys W hD rfl ⟨⟨hp, ⟨ha, hfa⟩, ⟨ht, hft⟩⟩, hB⟩ hK
    have E := phid (accP_all HB.out hw hm)
    gi_wp2
    refine ⟨by simp, .inl ⟨_, _, rfl, run_takeDeferred hK, ?_⟩⟩
    refine ⟨.tuple #[.int .u32 (accP ⟨cwp, pil, bank, flags⟩ [0, 1, 2, 3]).1, .int .i64 0], by simp [results, Tryz.results57, go_sem], pret2 E.out rfl, ?_⟩
    exact hB.trans (belowK_b (w := w) (Nat.le_refl _) W D _ _ (by simp [go_sem] at hD; omega) hK rfl rfl)
  case stop =>
    rintro D c pre W _ _ h _
    exact h.elim
end Go.Proofs.YtgdebchbdmogcaaGreatDoor
/- psr.Pack, whatever the state and the windows are. -/
namespace Go.Proofs.YtgdebchbdmogcaaGreatDoor
open Go.RowKit Go.Shelf
set_option linter.unusedVariables false
set_option linter.unusedSimpArgs false
set_option maxRecDepth 100000 in
set_option maxHeartbeats 1000000 in
theorem pack_any (p : Px) (hb : p.bd) (nw : Int) (w : World) :
    Calls Tryz.prog 57 #[p.agg, .int .i64 nw] w fun e w' => e = .returned (.tuple #[.int .u32 (packS p nw), .int .i64 (packE p nw)]) ∧ Below w.heap.size w w' := by
  by_cases h : winP nw ∧ pmayP p nw
  · rw [show packS p nw = packW p from if_pos h, show packE p nw = 0 from if_pos h]
    exact pack_yes p hb nw h.1 h.2 w
  · rw [show packS p nw = 0 from if_neg h, show packE p nw = 2 from if_neg h]
    have hq := windows_any nw
    by_cases hw : winP nw
    · have hm := pmay_any p hb nw
      rw [decide_eq_true hw] at hq
      rw [decide_eq_false (fun hm => h ⟨hw, hm⟩)] at hm
      have H1 := phid hq
      have H2 := phid hm
      clear hq hm hw h hb
      obtain ⟨cwp, pil, bank, flags⟩ := p
      go_enter Tryz.func57, Tryz.ntmps57
      go_wp2_with fail
      refine (H1.out _).mono ?_
      rintro e w' ⟨rfl, rfl⟩
      go_wp2_with fail
      refine (H2.out _).mono ?_
      rintro e w' ⟨rfl, hB⟩
      have HB := phid hB
      clear hB
      go_wp2_with fail
      go_ret2
      exact ⟨rfl, pbt (pbal _ _) HB.out⟩
    · rw [decide_eq_false hw] at hq
      have H1 := phid hq
      clear hq hw h hb
      obtain ⟨cwp, pil, bank, flags⟩ := p
      go_enter Tryz.func57, Tryz.ntmps57
      go_wp2_with fail
      refine (H1.out _).mono ?_
      rintro e w' ⟨rfl, rfl⟩
      go_wp2_with fail
      go_ret2
      exact ⟨rfl, by go_grown⟩
end Go.Proofs.YtgdebchbdmogcaaGreatDoor
/- The walk of psr.Unpack. -/
namespace Go.Proofs.YtgdebchbdmogcaaGreatDoor
open Go.RowKit Go.Shelf
set_option linter.unusedVariables false
set_option linter.unusedSimpArgs false
attribute [local go_sem] Oper.semAt_some
def modP (i : Fin 4) (n : Int) : Int := if i.val = 0 ∨ i.val = 2 then n % 32 else n % 16
def divP (i : Fin 4) (n : Int) : Int := if i.val = 0 ∨ i.val = 2 then n / 32 else n / 16
def stU (x : (Fin 4 → Int) × Int) (i : Fin 4) : (Fin 4 → Int) × Int := (fun j => if j = i then modP i x.2 else x.1 j, divP i x.2)
def accU (n : Int) (pre : List (Fin 4)) : (Fin 4 → Int) × Int := pre.foldl stU (fun _ => 0, n)
theorem accU_snoc (n : Int) (pre : List (Fin 4)) (i : Fin 4) : accU n (pre ++ [i]) = stU (accU n pre) i := by unfold accU; rw [List.foldl_append]; rfl
theorem accU_bd (l : List (Fin 4)) : ∀ x : (Fin 4 → Int) × Int, 0 ≤ x.2 ∧ x.2 < 4294967296 → 0 ≤ (l.foldl stU x).2 ∧ (l.foldl stU x).2 < 4294967296 := by
  induction l with
  | nil => intro x hx; exact hx
  | cons i l ih =>
    intro x hx
    refine ih (stU x i) ?_
    simp only [stU, divP]
    split <;> omega
theorem accU_all (n : Int) : (accU n [0, 1, 2, 3]).1 0 = n % 32 ∧ (accU n [0, 1, 2, 3]).1 1 = n / 32 % 16 ∧ (accU n [0, 1, 2, 3]).1 2 = n / 32 / 16 % 32 ∧ (accU n [0, 1, 2, 3]).1 3 = n / 32 / 16 / 32 % 16 ∧ (accU n [0, 1, 2, 3]).2 = n / 32 / 16 / 32 / 16 := by
  exact ⟨rfl, rfl, rfl, rfl, rfl⟩
theorem un_round {n b g : Nat} {w W : World} {f : Fin 4 → Int} {i : Fin 4} {v : Int} {l l' : Value} (hn : n ≤ b) (hbg : b < g) (hgl : True)
    (hr : ∀ j : Fin 4, W.cell? ⟨b, j.val, none⟩ = some ([Value.int .u8 0, .int .u8 0, .int .u8 0, .int .u8 0].getD j.val undef) ∧ W.frozen? ⟨b, j.val, none⟩ = false)
    (hp : ∀ j : Fin 4, W.cell? ⟨g, j.val, none⟩ = some (.int .u8 (f j)) ∧ W.frozen? ⟨g, j.val, none⟩ = false)
    (hl : W.cell? ⟨g + 1, 0, none⟩ = some l) (hfl : W.frozen? ⟨g + 1, 0, none⟩ = false) (hB : Below n w W) :
    ((∀ j : Fin 4, (((W.setCell ⟨g, i.val, none⟩ (.int .u8 v)).setCell ⟨g + 1, 0, none⟩ l').drew).cell? ⟨b, j.val, none⟩ = some ([Value.int .u8 0, .int .u8 0, .int .u8 0, .int .u8 0].getD j.val undef) ∧ (((W.setCell ⟨g, i.val, none⟩ (.int .u8 v)).setCell ⟨g + 1, 0, none⟩ l').drew).frozen? ⟨b, j.val, none⟩ = false) ∧
    (∀ j : Fin 4, (((W.setCell ⟨g, i.val, none⟩ (.int .u8 v)).setCell ⟨g + 1, 0, none⟩ l').drew).cell? ⟨g, j.val, none⟩ = some (.int .u8 ((fun j => if j = i then v else f j) j)) ∧ (((W.setCell ⟨g, i.val, none⟩ (.int .u8 v)).setCell ⟨g + 1, 0, none⟩ l').drew).frozen? ⟨g, j.val, none⟩ = false) ∧
    (((W.setCell ⟨g, i.val, none⟩ (.int .u8 v)).setCell ⟨g + 1, 0, none⟩ l').drew).cell? ⟨g + 1, 0, none⟩ = some l' ∧ (((W.setCell ⟨g, i.val, none⟩ (.int .u8 v)).setCell ⟨g + 1, 0, none⟩ l').drew).frozen? ⟨g + 1, 0, none⟩ = false) ∧
    Below n w (((W.setCell ⟨g, i.val, none⟩ (.int .u8 v)).setCell ⟨g + 1, 0, none⟩ l').drew) := by
  have hfr : ∀ a, (((W.setCell ⟨g, i.val, none⟩ (.int .u8 v)).setCell ⟨g + 1, 0, none⟩ l').drew).frozen? a = W.frozen? a := by
    intro a
    show ((W.setCell ⟨g, i.val, none⟩ (.int .u8 v)).setCell ⟨g + 1, 0, none⟩ l').frozen? a = _
    rw [World.frozen?_setCell, World.frozen?_setCell]
  refine ⟨⟨fun j => ⟨?_, by rw [hfr]; exact (hr j).2⟩, fun j => ⟨?_, by rw [hfr]; exact (hp j).2⟩, ?_, by rw [hfr]; exact hfl⟩, ?_⟩
  · show ((W.setCell ⟨g, i.val, none⟩ (.int .u8 v)).setCell ⟨g + 1, 0, none⟩ l').cell? ⟨b, j.val, none⟩ = _
    rw [World.cell?_setCell_far _ _ _ _ (by show g + 1 ≠ b; omega), World.cell?_setCell_far _ _ _ _ (by show g ≠ b; omega)]
    exact (hr j).1
  · show ((W.setCell ⟨g, i.val, none⟩ (.int .u8 v)).setCell ⟨g + 1, 0, none⟩ l').cell? ⟨g, j.val, none⟩ = _
    rw [World.cell?_setCell_far _ _ _ _ (by show g + 1 ≠ g; omega)]
    by_cases e : j = i
    · subst e
      simp only [if_true]
      exact World.cell?_setCell_same' _ _ _ (by rw [(hp j).1]; rfl)
    · simp only [if_neg e]
      have hne : (⟨g, i.val, none⟩ : Addr) ≠ ⟨g, j.val, none⟩ := fun h => e (Fin.ext (by have := congrArg Addr.off h; simpa using this.symm))
      exact (World.cell?_setCell_other _ _ _ _ hne).trans (hp j).1
  · show ((W.setCell ⟨g, i.val, none⟩ (.int .u8 v)).setCell ⟨g + 1, 0, none⟩ l').cell? ⟨g + 1, 0, none⟩ = _
    exact World.cell?_setCell_same' _ _ _ (by rw [World.cell?_setCell_far _ _ _ _ (by show g ≠ g + 1; omega), hl]; rfl)
  · exact ((hB.setCell (p := ⟨g, i.val, none⟩) (by show n ≤ g; omega) _).setCell (p := ⟨g + 1, 0, none⟩) (by show n ≤ g + 1; omega) _).drew
theorem forall4 {P : Nat → Prop} (h0 : P 0) (h1 : P 1) (h2 : P 2) (h3 : P 3) : ∀ j : Fin 4, P j.val := fun j => by
  match j with
  | 0 => exact h0
  | 1 => exact h1
  | 2 => exact h2
  | 3 => exact h3
theorem un_fin {n b D : Nat} {w W : World} {v0 v1 v2 v3 : Value} (hn : n ≤ b) (hbD : b < D)
    (hr : ∀ j : Fin 4, (W.cell? ⟨b, j.val, none⟩).isSome = true) (hK : W.heap[D]? = some (.deferred (some []))) (hB : Below n w W) :
    ((((W.setCell ⟨b, 0, none⟩ v0).setCell ⟨b, 1, none⟩ v1).setCell ⟨b, 2, none⟩ v2).setCell ⟨b, 3, none⟩ v3).heap[D]? = some (.deferred (some [])) ∧
    ((((((W.setCell ⟨b, 0, none⟩ v0).setCell ⟨b, 1, none⟩ v1).setCell ⟨b, 2, none⟩ v2).setCell ⟨b, 3, none⟩ v3).putObj D (.deferred none)).cell? ⟨b, 0, none⟩ = some v0 ∧
     (((((W.setCell ⟨b, 0, none⟩ v0).setCell ⟨b, 1, none⟩ v1).setCell ⟨b, 2, none⟩ v2).setCell ⟨b, 3, none⟩ v3).putObj D (.deferred none)).cell? ⟨b, 1, none⟩ = some v1 ∧
     (((((W.setCell ⟨b, 0, none⟩ v0).setCell ⟨b, 1, none⟩ v1).setCell ⟨b, 2, none⟩ v2).setCell ⟨b, 3, none⟩ v3).putObj D (.deferred none)).cell? ⟨b, 2, none⟩ = some v2 ∧
     (((((W.setCell ⟨b, 0, none⟩ v0).setCell ⟨b, 1, none⟩ v1).setCell ⟨b, 2, none⟩ v2).setCell ⟨b, 3, none⟩ v3).putObj D (.deferred none)).cell? ⟨b, 3, none⟩ = some v3) ∧
    Below n w (((((W.setCell ⟨b, 0, none⟩ v0).setCell ⟨b, 1, none⟩ v1).setCell ⟨b, 2, none⟩ v2).setCell ⟨b, 3, none⟩ v3).putObj D (.deferred none)) := by
  have ko := KeepsOthers.trans (KeepsOthers.trans (KeepsOthers.trans (KeepsOthers.setCell W ⟨b, 0, none⟩ v0) (KeepsOthers.setCell _ ⟨b, 1, none⟩ v1)) (KeepsOthers.setCell _ ⟨b, 2, none⟩ v2)) (KeepsOthers.setCell _ ⟨b, 3, none⟩ v3)
  have hK' := ko.same D _ hK rfl
  have ne : ∀ i j : Nat, i ≠ j → (⟨b, i, none⟩ : Addr) ≠ ⟨b, j, none⟩ := fun i j h e => h (congrArg Addr.off e)
  have s1 : ∀ (V : World) (i : Nat) (v : Value) (a : Addr), (V.cell? a).isSome = true → ((V.setCell ⟨b, i, none⟩ v).cell? a).isSome = true := by
    intro V i v a h
    obtain ⟨u, hu⟩ := Option.isSome_iff_exists.1 h
    obtain ⟨u', hu'⟩ := cell?_setCell_some (w := V) (p := ⟨b, i, none⟩) (x := v) (q := a) (v := u) hu
    rw [hu']; rfl
  have put : ∀ {p : Addr} {v : Value}, ((((W.setCell ⟨b, 0, none⟩ v0).setCell ⟨b, 1, none⟩ v1).setCell ⟨b, 2, none⟩ v2).setCell ⟨b, 3, none⟩ v3).cell? p = some v → (((((W.setCell ⟨b, 0, none⟩ v0).setCell ⟨b, 1, none⟩ v1).setCell ⟨b, 2, none⟩ v2).setCell ⟨b, 3, none⟩ v3).putObj D (.deferred none)).cell? p = some v :=
    fun h => cell_kept h (grownBy_putObj' _ D (.deferred none)) (fun r e => by cases e; exact ⟨_, hK', rfl⟩)
  refine ⟨hK', ⟨put ?_, put ?_, put ?_, put ?_⟩, ?_⟩
  · rw [World.cell?_setCell_other _ _ _ _ (ne 3 0 (by decide)), World.cell?_setCell_other _ _ _ _ (ne 2 0 (by decide)), World.cell?_setCell_other _ _ _ _ (ne 1 0 (by decide))]
    exact World.cell?_setCell_same' _ _ _ (hr 0)
  · rw [World.cell?_setCell_other _ _ _ _ (ne 3 1 (by decide)), World.cell?_setCell_other _ _ _ _ (ne 2 1 (by decide))]
    exact World.cell?_setCell_same' _ _ _ (s1 _ _ _ _ (hr 1))
  · rw [World.cell?_setCell_other _ _ _ _ (ne 3 2 (by decide))]
    exact World.cell?_setCell_same' _ _ _ (s1 _ _ _ _ (s1 _ _ _ _ (hr 2)))
  · exact World.cell?_setCell_same' _ _ _ (s1 _ _ _ _ (s1 _ _ _ _ (s1 _ _ _ _ (hr 3))))
  · have hB' := (((hB.setCell (p := ⟨b, 0, none⟩) hn v0).setCell (p := ⟨b, 1, none⟩) hn v1).setCell (p := ⟨b, 2, none⟩) hn v2).setCell (p := ⟨b, 3, none⟩) hn v3
    obtain ⟨u, hu⟩ := Option.isSome_iff_exists.1 (hr 0)
    have hb : b < W.heap.size := World.block_lt_of_cell? _ _ hu
    exact hB'.grown (grownBy_putObj' _ D _) (by simp only [World.size_setCell]; omega) (fun k e => by cases e; omega)
set_option maxRecDepth 100000 in
set_option maxHeartbeats 4000000 in
theorem unpack_win (w0 : Int) (h0 : 0 ≤ w0) (h1 : w0 < 4294967296) (nw : Int) (hw : winP nw) (w : World) :
    Calls Tryz.prog 107 #[.int .u32 w0, .int .i64 nw] w fun e w' => e = .returned (.tuple #[(unS w0 nw).agg, .int .i64 (unE w0 nw)]) ∧ Below w.heap.size w w' := by
  have h1 := windows_any nw
  rw [decide_eq_true hw] at h1
  have H1 := phid h1
  clear h1
  refine (callsIn_wide (n := 6)).1 ?_
  refine callsIn_of_wp_marks Tryz.func107 rfl trivial ?_ rfl
  simp only [Tryz.ntmps107, List.size_toArray, List.length_cons, List.length_nil, Nat.reduceAdd, Nat.reduceSub, Array.replicate_succ, Array.replicate_zero, List.push_toArray, List.append_toArray, List.nil_append, List.cons_append]
  gi_wp2_with fail
  refine ⟨trivial, (callsIn_wide.2 (H1.out _)).mono ?_⟩
  rintro e w' ⟨rfl, rfl⟩
  gi_wp2_with fail
  refine ⟨trivial, (callsIn_wide.2 (parts_any _ _)).mono ?_⟩
  rintro e w' ⟨rfl, rfl⟩
  gi_wp2_with fail
  have BW : Below w.heap.size w ((((w.alloc (.cells #[.int .u8 0, .int .u8 0, .int .u8 0, .int .u8 0] 24)).alloc (.cells #[.int .u8 0, .int .u8 0, .int .u8 0, .int .u8 0] 24)).alloc (.cells #[.int .u32 w0] 22)).alloc (.cells #[.pointer (some ⟨w.heap.size + 1, 0, none⟩)] 144)) :=
    pbt (pbt (pbt (pbal _ _) (pbal _ _)) (pbal _ _)) (pbal _ _)
  refine wpIn_rangeFunc_ownF rfl (by omega) (gf := 116) (lb := #[.pointer (some ⟨w.heap.size + 1 + 1 + 1, 0, none⟩)]) rfl trivial (enters_of Tryz.func116 (by kernel_rfl) rfl)
    (parts_stops 5 (by omega) (w.heap.size + 1 + 1 + 1) (w.heap.size + 1) _ (by simp [go_sem])) (fun _ _ => trivial) (fun _ _ _ _ _ _ _ _ => trivial) (Below.refl _ _) (fun _ => rfl)
    (fun pre W => ((∀ j : Fin 4, W.cell? ⟨w.heap.size, j.val, none⟩ = some ([Value.int .u8 0, .int .u8 0, .int .u8 0, .int .u8 0].getD j.val undef) ∧ W.frozen? ⟨w.heap.size, j.val, none⟩ = false) ∧
      (∀ j : Fin 4, W.cell? ⟨w.heap.size + 1, j.val, none⟩ = some (.int .u8 ((accU w0 pre).1 j)) ∧ W.frozen? ⟨w.heap.size + 1, j.val, none⟩ = false) ∧
      W.cell? ⟨w.heap.size + 1 + 1, 0, none⟩ = some (.int .u32 (accU w0 pre).2) ∧ W.frozen? ⟨w.heap.size + 1 + 1, 0, none⟩ = false) ∧ Below w.heap.size w W)
    (fun _ _ _ => False)
    (OwnFrom.and (Own.from (fun s A B row hs hg hr => ⟨fun j => ⟨cell_kept (hs.1 j).1 hg hr, (frozen_kept (hs.1 j).1 hg hr).trans (hs.1 j).2⟩, fun j => ⟨cell_kept (hs.2.1 j).1 hg hr, (frozen_kept (hs.2.1 j).1 hg hr).trans (hs.2.1 j).2⟩, cell_kept hs.2.2.1 hg hr, (frozen_kept hs.2.2.1 hg hr).trans hs.2.2.2⟩) _) (ownFrom_below (Nat.le_refl _) (by simp; omega)))
    (fun _ _ _ _ _ hs _ _ => hs)
    ⟨⟨?start0, ?start1, by simp [go_sem, accU], by simp [go_sem]⟩, BW⟩
    (fun x => { tmps := #[.int .u32 w0, .int .i64 nw, undef, undef, .pointer (some ⟨w.heap.size, 0, none⟩), .int .i64 0, .pointer (some ⟨w.heap.size + 1, 0, none⟩), .pointer (some ⟨w.heap.size + 1 + 1, 0, none⟩), .pointer (some ⟨w.heap.size + 1, x.val, none⟩), .int .i64 (bitsP x), .int .i64 nw, .bool true, .bool false, undef, .int .u32 w0, .func (.func 116) #[] #[.pointer (some ⟨w.heap.size + 1 + 1 + 1, 0, none⟩)], .pointer (some ⟨w.heap.size + 1, x.val, none⟩), .int .i64 (bitsP x), undef, undef, undef, undef, undef, undef, undef, undef, undef, undef, undef, undef, undef, undef, undef, undef, undef, undef, undef, undef, undef], defers := [] }) ?assign ?body ?done ?stop
  case start0 =>
    exact forall4 (P := fun k => ((((w.alloc (.cells #[.int .u8 0, .int .u8 0, .int .u8 0, .int .u8 0] 24)).alloc (.cells #[.int .u8 0, .int .u8 0, .int .u8 0, .int .u8 0] 24)).alloc (.cells #[.int .u32 w0] 22)).alloc (.cells #[.pointer (some ⟨w.heap.size + 1, 0, none⟩)] 144)).cell? ⟨w.heap.size, k, none⟩ = some ([Value.int .u8 0, .int .u8 0, .int .u8 0, .int .u8 0].getD k undef) ∧ ((((w.alloc (.cells #[.int .u8 0, .int .u8 0, .int .u8 0, .int .u8 0] 24)).alloc (.cells #[.int .u8 0, .int .u8 0, .int .u8 0, .int .u8 0] 24)).alloc (.cells #[.int .u32 w0] 22)).alloc (.cells #[.pointer (some ⟨w.heap.size + 1, 0, none⟩)] 144)).frozen? ⟨w.heap.size, k, none⟩ = false)
      (by simp [go_sem]) (by simp [go_sem]) (by simp [go_sem]) (by simp [go_sem])
  case start1 =>
    exact forall4 (P := fun k => ((((w.alloc (.cells #[.int .u8 0, .int .u8 0, .int .u8 0, .int .u8 0] 24)).alloc (.cells #[.int .u8 0, .int .u8 0, .int .u8 0, .int .u8 0] 24)).alloc (.cells #[.int .u32 w0] 22)).alloc (.cells #[.pointer (some ⟨w.heap.size + 1, 0, none⟩)] 144)).cell? ⟨w.heap.size + 1, k, none⟩ = some (.int .u8 0) ∧ ((((w.alloc (.cells #[.int .u8 0, .int .u8 0, .int .u8 0, .int .u8 0] 24)).alloc (.cells #[.int .u8 0, .int .u8 0, .int .u8 0, .int .u8 0] 24)).alloc (.cells #[.int .u32 w0] 22)).alloc (.cells #[.pointer (some ⟨w.heap.size + 1, 0, none⟩)] 144)).frozen? ⟨w.heap.size + 1, k, none⟩ = false)
      (by simp [go_sem]) (by simp [go_sem]) (by simp [go_sem]) (by simp [go_sem])
  case assign =>
    intro l x W K hK
    gi_wp2
    exact hK
  case body =>
    rintro l pre x W ⟨⟨hr, hp, hl, hfl⟩, hB⟩ hlen
    have hbd := accU_bd pre (fun _ => 0, w0) ⟨h0, by omega⟩
    have hL : (0 : Int) ≤ (accU w0 pre).2 ∧ (accU w0 pre).2 < 4294967296 := hbd
    have hs1 : (accU w0 (pre ++ [x])).1 = fun j => if j = x then modP x (accU w0 pre).2 else (accU w0 pre).1 j := by rw [accU_snoc]; rfl
    have hs2 : (accU w0 (pre ++ [x])).2 = divP x (accU w0 pre).2 := by rw [accU_snoc]; rfl
    have HR := phid hr
    have HP := phid hp
    have HB := phid hB
    have hmix : Tryz.prog.follows .mixedOrders = true := by kernel_rfl
    have hpx := (hp x).1
    have hfx := (hp x).2
    have hLL := phid hl
    generalize (accU w0 pre).2 = L at hl hs1 hs2 hL hLL
    generalize (accU w0 pre).1 = f at hpx hs1 HP hp
    have HS := phid (And.intro hs1 hs2)
    clear hr hp hB hbd hs1 hs2
    have hx : x = 0 ∨ x = 1 ∨ x = 2 ∨ x = 3 := by
      match x with
      | 0 => exact .inl rfl
      | 1 => exact .inr (.inl rfl)
      | 2 => exact .inr (.inr (.inl rfl))
      | 3 => exact .inr (.inr (.inr rfl))
    rcases hx with rfl | rfl | rfl | rfl
    · have em : bits .and .u32 L 31 = L % 32 := by rw [u32_and L 31 hL.1 hL.2 (by omega) (by omega)]; rw [show ((L.toNat &&& (31 : Int).toNat : Nat) : Int) = ((L.toNat % 2 ^ 5 : Nat) : Int) from congrArg _ (Nat.and_two_pow_sub_one_eq_mod L.toNat 5)]; omega
      have eb : 0 ≤ L % 32 ∧ L % 32 < 32 := by omega
      have hpx' : W.cell? ⟨w.heap.size + 1, 0, none⟩ = some (.int .u8 (f 0)) := hpx
      have hfx' : W.frozen? ⟨w.heap.size + 1, 0, none⟩ = false := hfx
      have ev : L % 32 % 256 = L % 32 := by omega
      have EV := phid ev
      have e1 : (accU w0 (pre ++ [0])).1 = fun j => if j = 0 then L % 32 else f j := HS.out.1
      have E1 := phid e1
      clear hpx hfx ev e1
      change Code.wpIn _ _ _ _ _ { tmps := #[_, _, _, _, _, _, _, _, .pointer (some ⟨w.heap.size + 1, 0, none⟩), .int .i64 5, _, _, _, _, _, _, .pointer (some ⟨w.heap.size + 1, 0, none⟩), .int .i64 5, _, _, _, _, _, _, _, _, _, _, _, _, _, _, _, _, _, _, _, _, _], defers := [] } W
      gi_wp2
      gi_region_with_o (fail)
      all_goals gi_wp2
      all_goals
        refine ⟨KeepsOthers.trans (KeepsOthers.trans (KeepsOthers.setCell _ _ _) (KeepsOthers.setCell _ _ _)) (KeepsOthers.drew _), trivial, ?_⟩
        have e := un_round (i := 0) (v := L % 32 % 256) (l' := .int .u32 (L / 32)) (Nat.le_refl _) (Nat.lt_succ_self _) trivial HR.out HP.out hLL.out hfl HB.out
        rw [EV.out] at e ⊢
        dsimp only
        rw [E1.out, HS.out.2]
        exact e
    · have em : bits .and .u32 L 15 = L % 16 := by rw [u32_and L 15 hL.1 hL.2 (by omega) (by omega)]; rw [show ((L.toNat &&& (15 : Int).toNat : Nat) : Int) = ((L.toNat % 2 ^ 4 : Nat) : Int) from congrArg _ (Nat.and_two_pow_sub_one_eq_mod L.toNat 4)]; omega
      have eb : 0 ≤ L % 16 ∧ L % 16 < 16 := by omega
      have hpx' : W.cell? ⟨w.heap.size + 1, 1, none⟩ = some (.int .u8 (f 1)) := hpx
      have hfx' : W.frozen? ⟨w.heap.size + 1, 1, none⟩ = false := hfx
      have ev : L % 16 % 256 = L % 16 := by omega
      have EV := phid ev
      have e1 : (accU w0 (pre ++ [1])).1 = fun j => if j = 1 then L % 16 else f j := HS.out.1
      have E1 := phid e1
      clear hpx hfx ev e1
      change Code.wpIn _ _ _ _ _ { tmps := #[_, _, _, _, _, _, _, _, .pointer (some ⟨w.heap.size + 1, 1, none⟩), .int .i64 4, _, _, _, _, _, _, .pointer (some ⟨w.heap.size + 1, 1, none⟩), .int .i64 4, _, _, _, _, _, _, _, _, _, _, _, _, _, _, _, _, _, _, _, _, _], defers := [] } W
      gi_wp2
      gi_region_with_o (fail)
      all_goals gi_wp2
      all_goals
        refine ⟨KeepsOthers.trans (KeepsOthers.trans (KeepsOthers.setCell _ _ _) (KeepsOthers.setCell _ _ _)) (KeepsOthers.drew _), trivial, ?_⟩
        have e := un_round (i := 1) (v := L % 16 % 256) (l' := .int .u32 (L / 16)) (Nat.le_refl _) (Nat.lt_succ_self _) trivial HR.out HP.out hLL.out hfl HB.out
        rw [EV.out] at e ⊢
        dsimp only
        rw [E1.out, HS.out.2]
        exact e
    · have em : bits .and .u32 L 31 = L % 32 := by rw [u32_and L 31 hL.1 hL.2 (by omega) (by omega)]; rw [show ((L.toNat &&& (31 : Int).toNat : Nat) : Int) = ((L.toNat % 2 ^ 5 : Nat) : Int) from congrArg _ (Nat.and_two_pow_sub_one_eq_mod L.toNat 5)]; omega
      have eb : 0 ≤ L % 32 ∧ L % 32 < 32 := by omega
      have hpx' : W.cell? ⟨w.heap.size + 1, 2, none⟩ = some (.int .u8 (f 2)) := hpx
      have hfx' : W.frozen? ⟨w.heap.size + 1, 2, none⟩ = false := hfx
      have ev : L % 32 % 256 = L % 32 := by omega
      have EV := phid ev
      have e1 : (accU w0 (pre ++ [2])).1 = fun j => if j = 2 then L % 32 else f j := HS.out.1
      have E1 := phid e1
      clear hpx hfx ev e1
      change Code.wpIn _ _ _ _ _ { tmps := #[_, _, _, _, _, _, _, _, .pointer (some ⟨w.heap.size + 1, 2, none⟩), .int .i64 5, _, _, _, _, _, _, .pointer (some ⟨w.heap.size + 1, 2, none⟩), .int .i64 5, _, _, _, _, _, _, _, _, _, _, _, _, _, _, _, _, _, _, _, _, _], defers := [] } W
      gi_wp2
      gi_region_with_o (fail)
      all_goals gi_wp2
      all_goals
        refine ⟨KeepsOthers.trans (KeepsOthers.trans (KeepsOthers.setCell _ _ _) (KeepsOthers.setCell _ _ _)) (KeepsOthers.drew _), trivial, ?_⟩
        have e := un_round (i := 2) (v := L % 32 % 256) (l' := .int .u32 (L / 32)) (Nat.le_refl _) (Nat.lt_succ_self _) trivial HR.out HP.out hLL.out hfl HB.out
        rw [EV.out] at e ⊢
        dsimp only
        rw [E1.out, HS.out.2]
        exact e
    · have em : bits .and .u32 L 15 = L % 16 := by rw [u32_and L 15 hL.1 hL.2 (by omega) (by omega)]; rw [show ((L.toNat &&& (15 : Int).toNat : Nat) : Int) = ((L.toNat % 2 ^ 4 : Nat) : Int) from congrArg _ (Nat.and_two_pow_sub_one_eq_mod L.toNat 4)]; omega
      have eb : 0 ≤ L % 16 ∧ L % 16 < 16 := by omega
      have hpx' : W.cell? ⟨w.heap.size + 1, 3, none⟩ = some (.int .u8 (f 3)) := hpx
      have hfx' : W.frozen? ⟨w.heap.size + 1, 3, none⟩ = false := hfx
      have ev : L % 16 % 256 = L % 16 := by omega
      have EV := phid ev
      have e1 : (accU w0 (pre ++ [3])).1 = fun j => if j = 3 then L % 16 else f j := HS.out.1
      have E1 := phid e1
      clear hpx hfx ev e1
      change Code.wpIn _ _ _ _ _ { tmps := #[_, _, _, _, _, _, _, _, .pointer (some ⟨w.heap.size + 1, 3, none⟩), .int .i64 4, _, _, _, _, _, _, .pointer (some ⟨w.heap.size + 1, 3, none⟩), .int .i64 4, _, _, _, _, _, _, _, _, _, _, _, _, _, _, _, _, _, _, _, _, _], defers := [] } W
      gi_wp2
      gi_region_with_o (fail)
      all_goals gi_wp2
      all_goals
        refine ⟨KeepsOthers.trans (KeepsOthers.trans (KeepsOthers.setCell _ _ _) (KeepsOthers.setCell _ _ _)) (KeepsOthers.drew _), trivial, ?_⟩
        have e := un_round (i := 3) (v := L % 16 % 256) (l' := .int .u32 (L / 16)) (Nat.le_refl _) (Nat.lt_succ_self _) trivial HR.out HP.out hLL.out hfl HB.out
        rw [EV.out] at e ⊢
        dsimp only
        rw [E1.out, HS.out.2]
        exact e
  case done =>
    rintro D ys W hD rfl ⟨⟨hr, hp, hl, hfl⟩, hB⟩ hK
    obtain ⟨e0, e1, e2, e3, e4⟩ := accU_all w0
    have p0 : W.cell? ⟨w.heap.size + 1, 0, none⟩ = some (.int .u8 (w0 % 32)) := by rw [← e0]; exact (hp 0).1
    have p1 : W.cell? ⟨w.heap.size + 1, 1, none⟩ = some (.int .u8 (w0 / 32 % 16)) := by rw [← e1]; exact (hp 1).1
    have p2 : W.cell? ⟨w.heap.size + 1, 2, none⟩ = some (.int .u8 (w0 / 32 / 16 % 32)) := by rw [← e2]; exact (hp 2).1
    have p3 : W.cell? ⟨w.heap.size + 1, 3, none⟩ = some (.int .u8 (w0 / 32 / 16 / 32 % 16)) := by rw [← e3]; exact (hp 3).1
    have l0 : W.cell? ⟨w.heap.size + 1 + 1, 0, none⟩ = some (.int .u32 (w0 / 32 / 16 / 32 / 16)) := by rw [← e4]; exact hl
    have z0 : W.cell? ⟨w.heap.size, 0, none⟩ = some (.int .u8 0) := (hr 0).1
    have z1 : W.cell? ⟨w.heap.size, 1, none⟩ = some (.int .u8 0) := (hr 1).1
    have z2 : W.cell? ⟨w.heap.size, 2, none⟩ = some (.int .u8 0) := (hr 2).1
    have z3 : W.cell? ⟨w.heap.size, 3, none⟩ = some (.int .u8 0) := (hr 3).1
    have f0 : W.frozen? ⟨w.heap.size, 0, none⟩ = false := (hr 0).2
    have f1 : W.frozen? ⟨w.heap.size, 1, none⟩ = false := (hr 1).2
    have f2 : W.frozen? ⟨w.heap.size, 2, none⟩ = false := (hr 2).2
    have f3 : W.frozen? ⟨w.heap.size, 3, none⟩ = false := (hr 3).2
    have HB := phid hB
    have HKK := phid hK
    have HR := forall4 (P := fun k => (W.cell? ⟨w.heap.size, k, none⟩).isSome = true) (by rw [z0]; rfl) (by rw [z1]; rfl) (by rw [z2]; rfl) (by rw [z3]; rfl)
    have HR := phid HR
    have eu : (⟨w0 % 32, w0 / 32 % 16, w0 / 32 / 16 % 32, w0 / 32 / 16 / 32 % 16⟩ : Px) = unW w0 := by
      unfold unW; congr 1 <;> omega
    have EU := phid eu
    have hd2 : w.heap.size + 1 < W.heap.size := World.block_lt_of_cell? _ _ p0
    have HD := phid hD
    clear hr hp hl hfl hB hK e0 e1 e2 e3 e4 eu hD
    by_cases hq : 0 < w0 / 32 / 16 / 32 / 16
    · have hq1 : decide (0 < w0 / 32 / 16 / 32 / 16) = true := by simpa using hq
      have HX := phid (show unS w0 nw = Px.zero ∧ unE w0 nw = 5 from ⟨if_neg (fun h => by have := h.2.1; omega), by unfold unE; rw [if_pos hw, if_neg (fun h => by have := h.1; omega)]⟩)
      clear hq
      gi_wp2_with fail
      refine ⟨trivial, ?_⟩
      gi_wp2_with fail
      obtain ⟨hK', ⟨r0, r1, r2, r3⟩, hBf⟩ := un_fin (v0 := .int .u8 0) (v1 := .int .u8 0) (v2 := .int .u8 0) (v3 := .int .u8 0) (Nat.le_refl _) (by have := HD.out; simp [go_sem] at this; omega) HR.out HKK.out HB.out
      refine ⟨by simp, .inl ⟨_, _, rfl, run_takeDeferred hK', ?_⟩⟩
      refine ⟨.tuple #[.agg #[.int .u8 0, .int .u8 0, .int .u8 0, .int .u8 0], .int .i64 5], by simp [results, Tryz.results107, go_sem, r0, r1, r2, r3], ?_, hBf⟩
      rw [HX.out.1, HX.out.2]; rfl
    · have hq1 : decide (0 < w0 / 32 / 16 / 32 / 16) = false := by simpa using hq
      have hm := pmay_any ⟨w0 % 32, w0 / 32 % 16, w0 / 32 / 16 % 32, w0 / 32 / 16 / 32 % 16⟩ (by rw [EU.out]; exact un_bd h0) nw W
      rw [EU.out] at hm
      rw [← congrArg Px.agg EU.out] at hm
      have HM := phid hm
      have b0 : 0 ≤ w0 % 32 ∧ w0 % 32 < 256 := by omega
      have hw1 : w0 < 262144 := by omega
      clear hm
      by_cases hmm : pmayP (unW w0) nw
      · have HX := phid (show unS w0 nw = unW w0 ∧ unE w0 nw = 0 from ⟨if_pos ⟨hw, hw1, hmm⟩, by unfold unE; rw [if_pos hw, if_pos ⟨hw1, hmm⟩]⟩)
        have HD2 := phid (show decide (pmayP (unW w0) nw) = true from decide_eq_true hmm)
        clear hq hmm
        gi_wp2_with fail
        refine ⟨trivial, (callsIn_wide.2 HM.out).mono ?_⟩
        rw [HD2.out]
        rintro e W2 ⟨rfl, hb2⟩
        have keep : ∀ {a : Addr} {v : Value}, W.cell? a = some v → W2.cell? a = some v := fun h => (hb2.cell (World.block_lt_of_cell? _ _ h)).trans h
        have y0 := keep p0
        have y1 := keep p1
        have y2 := keep p2
        have y3 := keep p3
        have q0 := keep z0
        have q1 := keep z1
        have q2 := keep z2
        have q3 := keep z3
        have g0 := (hb2.frozen (p := ⟨w.heap.size, 0, none⟩) (World.block_lt_of_cell? _ _ z0)).trans f0
        have g1 := (hb2.frozen (p := ⟨w.heap.size, 1, none⟩) (World.block_lt_of_cell? _ _ z1)).trans f1
        have g2 := (hb2.frozen (p := ⟨w.heap.size, 2, none⟩) (World.block_lt_of_cell? _ _ z2)).trans f2
        have g3 := (hb2.frozen (p := ⟨w.heap.size, 3, none⟩) (World.block_lt_of_cell? _ _ z3)).trans f3
        have HR2 := phid (forall4 (P := fun k => (W2.cell? ⟨w.heap.size, k, none⟩).isSome = true) (by rw [q0]; rfl) (by rw [q1]; rfl) (by rw [q2]; rfl) (by rw [q3]; rfl))
        have HK2 := phid ((hb2.block D (Array.getElem?_eq_some_iff.1 HKK.out).1).trans HKK.out)
        have HB2 := phid (pbt HB.out hb2)
        clear hb2 keep p0 p1 p2 p3 z0 z1 z2 z3 f0 f1 f2 f3 l0
        gi_wp2_with fail
        obtain ⟨hK', ⟨r0, r1, r2, r3⟩, hBf⟩ := un_fin (v0 := .int .u8 (w0 % 32)) (v1 := .int .u8 (w0 / 32 % 16)) (v2 := .int .u8 (w0 / 32 / 16 % 32)) (v3 := .int .u8 (w0 / 32 / 16 / 32 % 16)) (Nat.le_refl _) (by have := HD.out; simp [go_sem] at this; omega) HR2.out HK2.out HB2.out
        refine ⟨by simp, .inl ⟨_, _, rfl, run_takeDeferred hK', ?_⟩⟩
        refine ⟨.tuple #[.agg #[.int .u8 (w0 % 32), .int .u8 (w0 / 32 % 16), .int .u8 (w0 / 32 / 16 % 32), .int .u8 (w0 / 32 / 16 / 32 % 16)], .int .i64 0], by simp [results, Tryz.results107, go_sem, r0, r1, r2, r3], ?_, hBf⟩
        rw [HX.out.1, HX.out.2, ← congrArg Px.agg EU.out]
      · have HX := phid (show unS w0 nw = Px.zero ∧ unE w0 nw = 5 from ⟨if_neg (fun h => hmm h.2.2), by unfold unE; rw [if_pos hw, if_neg (fun h => hmm h.2)]⟩)
        have HD2 := phid (show decide (pmayP (unW w0) nw) = false from decide_eq_false hmm)
        clear hq hmm
        gi_wp2_with fail
        refine ⟨trivial, (callsIn_wide.2 HM.out).mono ?_⟩
        rw [HD2.out]
        rintro e W2 ⟨rfl, hb2⟩
        have keep : ∀ {a : Addr} {v : Value}, W.cell? a = some v → W2.cell? a = some v := fun h => (hb2.cell (World.block_lt_of_cell? _ _ h)).trans h
        have q0 := keep z0
        have q1 := keep z1
        have q2 := keep z2
        have q3 := keep z3
        have g0 := (hb2.frozen (p := ⟨w.heap.size, 0, none⟩) (World.block_lt_of_cell? _ _ z0)).trans f0
        have g1 := (hb2.frozen (p := ⟨w.heap.size, 1, none⟩) (World.block_lt_of_cell? _ _ z1)).trans f1
        have g2 := (hb2.frozen (p := ⟨w.heap.size, 2, none⟩) (World.block_lt_of_cell? _ _ z2)).trans f2
        have g3 := (hb2.frozen (p := ⟨w.heap.size, 3, none⟩) (World.block_lt_of_cell? _ _ z3)).trans f3
        have HR2 := phid (forall4 (P := fun k => (W2.cell? ⟨w.heap.size, k, none⟩).isSome = true) (by rw [q0]; rfl) (by rw [q1]; rfl) (by rw [q2]; rfl) (by rw [q3]; rfl))
        have HK2 := phid ((hb2.block D (Array.getElem?_eq_some_iff.1 HKK.out).1).trans HKK.out)
        have HB2 := phid (pbt HB.out hb2)
        clear hb2 keep p0 p1 p2 p3 z0 z1 z2 z3 f0 f1 f2 f3 l0
        gi_wp2_with fail
        obtain ⟨hK', ⟨r0, r1, r2, r3⟩, hBf⟩ := un_fin (v0 := .int .u8 0) (v1 := .int .u8 0) (v2 := .int .u8 0) (v3 := .int .u8 0) (Nat.le_refl _) (by have := HD.out; simp [go_sem] at this; omega) HR2.out HK2.out HB2.out
        refine ⟨by simp, .inl ⟨_, _, rfl, run_takeDeferred hK', ?_⟩⟩
        refine ⟨.tuple #[.agg #[.int .u8 0, .int .u8 0, .int .u8 0, .int .u8 0], .int .i64 5], by simp [results, Tryz.results107, go_sem, r0, r1, r2, r3], ?_, hBf⟩
        rw [HX.out.1, HX.out.2]; rfl
  case stop =>
    rintro D c pre W _ _ h _
    exact h.elim
set_option maxRecDepth 100000 in
set_option maxHeartbeats 1000000 in
theorem unpack_any (w0 : Int) (h0 : 0 ≤ w0) (h1 : w0 < 4294967296) (nw : Int) (w : World) :
    Calls Tryz.prog 107 #[.int .u32 w0, .int .i64 nw] w fun e w' => e = .returned (.tuple #[(unS w0 nw).agg, .int .i64 (unE w0 nw)]) ∧ Below w.heap.size w w' := by
  by_cases hw : winP nw
  · exact unpack_win w0 h0 h1 nw hw w
  · rw [show unS w0 nw = Px.zero from if_neg (fun h => hw h.1), show unE w0 nw = 2 from if_neg hw]
    have hq := windows_any nw
    rw [decide_eq_false hw] at hq
    have H1 := phid hq
    clear hq hw
    go_enter Tryz.func107, Tryz.ntmps107
    go_wp2_with fail
    refine (H1.out _).mono ?_
    rintro e w' ⟨rfl, rfl⟩
    go_wp2_with fail
    refine bodyPost_ret (by simp [results, Tryz.results107, go_sem]; try rfl) rfl ?_
    exact ⟨rfl, by go_grown⟩
end Go.Proofs.YtgdebchbdmogcaaGreatDoor
