/- Several texts in one: SwapMay, Ref6New, WindWorld, SwapWorldLaw. -/
import Derived.Test.YtajholbcpmjhiaaGreatDoorH41
import Derived.Deep.OwnRows
set_option linter.unusedVariables false
set_option linter.unusedSimpArgs false
namespace Go.Proofs.YtajholbcpmjhiaaGreatDoor
open Go.RowKit
set_option maxRecDepth 100000 in
set_option maxHeartbeats 8000000 in
theorem smay_any (w : World) (x : CaseS) (vr vf : Value) (h : CaseSIn w x vr vf) :
    Calls Tryz.prog 34 #[x.agg vr vf] w fun e w' => e = .returned (.bool (decide (mayS x))) ∧ Below w.heap.size w w' := by
  obtain ⟨nw, cwp, inv, regs, frames, threads, runs, alive, stacks, choice, flags, pil, fill, en⟩ := x
  obtain ⟨pr, cr, rfl⟩ : ∃ p c, vr = .slice p regs.length c := by obtain ⟨⟨_, p, c, e, _⟩, _⟩ := h.r; exact ⟨p, c, e⟩
  obtain ⟨pf, cf, rfl⟩ : ∃ p c, vf = .slice p frames.length c := by obtain ⟨_, _, p, c, _, _, e, _⟩ := h.f; exact ⟨p, c, e⟩
  clear h
  have HV : ∀ b : Bool, (b = true ↔ mayS ⟨nw, cwp, inv, regs, frames, threads, runs, alive, stacks, choice, flags, pil, fill, en⟩) → b = decide (mayS ⟨nw, cwp, inv, regs, frames, threads, runs, alive, stacks, choice, flags, pil, fill, en⟩) := fun b hb => by
    cases b
    · exact (decide_eq_false (fun hh => Bool.false_ne_true (hb.2 hh))).symm
    · exact (decide_eq_true (hb.1 rfl)).symm
  have HV := mhid HV
  obtain ⟨W1, hW1⟩ : ∃ W1, W1 = w.alloc (.cells (CaseS.cells ⟨nw, cwp, inv, regs, frames, threads, runs, alive, stacks, choice, flags, pil, fill, en⟩ (.slice pr regs.length cr) (.slice pf frames.length cf)).toArray 76) := ⟨_, rfl⟩
  have hb1 : Below w.heap.size w W1 := by rw [hW1]; exact (Below.refl _ _).alloc (Nat.le_refl _) _
  have hB : ARow W1 w.heap.size 76 (CaseS.cells ⟨nw, cwp, inv, regs, frames, threads, runs, alive, stacks, choice, flags, pil, fill, en⟩ (.slice pr regs.length cr) (.slice pf frames.length cf)) := by rw [hW1]; exact ARow.fresh w _ _
  have HB1 := mhid hb1
  have HB := mhid hB
  unfold CaseS.cells at HB hW1
  have c0 := HB.out.cell (k := 0) rfl
  have c1 := HB.out.cell (k := 1) rfl
  have c2 := HB.out.cell (k := 2) rfl
  have c3 := HB.out.cell (k := 3) rfl
  have c4 := HB.out.cell (k := 4) rfl
  have c5 := HB.out.cell (k := 5) rfl
  have c6 := HB.out.cell (k := 6) rfl
  have c16 := HB.out.cell (k := 16) rfl
  have c17 := HB.out.cell (k := 17) rfl
  clear hb1 hB
  rw [hW1] at c0 c1 c2 c3 c4 c5 c6 c16 c17
  go_enter Tryz.func34, Tryz.ntmps34
  unfold CaseS.agg
  by_cases a0 : (2 : Int) ≤ nw
  case neg =>
    go_wp2_with fail
    rw [← hW1]
    first
      | go_ret2
      | go_ret
    exact ⟨congrArg (fun b => Ending.returned (Value.bool b)) (HV.out _ (by unfold mayS; simp; omega)), HB1.out⟩
  case pos =>
    by_cases a1 : nw ≤ 32
    case neg =>
      go_wp2_with fail
      rw [← hW1]
      first
        | go_ret2
        | go_ret
      exact ⟨congrArg (fun b => Ending.returned (Value.bool b)) (HV.out _ (by unfold mayS; simp; omega)), HB1.out⟩
    case pos =>
      by_cases a2 : (0 : Int) ≤ cwp
      case neg =>
        go_wp2_with fail
        rw [← hW1]
        first
          | go_ret2
          | go_ret
        exact ⟨congrArg (fun b => Ending.returned (Value.bool b)) (HV.out _ (by unfold mayS; simp; omega)), HB1.out⟩
      case pos =>
        by_cases a3 : cwp < nw
        case neg =>
          go_wp2_with fail
          rw [← hW1]
          first
            | go_ret2
            | go_ret
          exact ⟨congrArg (fun b => Ending.returned (Value.bool b)) (HV.out _ (by unfold mayS; simp; omega)), HB1.out⟩
        case pos =>
          by_cases a4 : (0 : Int) ≤ inv
          case neg =>
            go_wp2_with fail
            rw [← hW1]
            first
              | go_ret2
              | go_ret
            exact ⟨congrArg (fun b => Ending.returned (Value.bool b)) (HV.out _ (by unfold mayS; simp; omega)), HB1.out⟩
          case pos =>
            by_cases a5 : inv < nw
            case neg =>
              go_wp2_with fail
              rw [← hW1]
              first
                | go_ret2
                | go_ret
              exact ⟨congrArg (fun b => Ending.returned (Value.bool b)) (HV.out _ (by unfold mayS; simp; omega)), HB1.out⟩
            case pos =>
              by_cases a6 : inv ≠ cwp
              case neg =>
                go_wp2_with fail
                rw [← hW1]
                first
                  | go_ret2
                  | go_ret
                exact ⟨congrArg (fun b => Ending.returned (Value.bool b)) (HV.out _ (by unfold mayS; simp; omega)), HB1.out⟩
              case pos =>
                by_cases a7 : (1 : Int) ≤ threads
                case neg =>
                  go_wp2_with fail
                  rw [← hW1]
                  first
                    | go_ret2
                    | go_ret
                  exact ⟨congrArg (fun b => Ending.returned (Value.bool b)) (HV.out _ (by unfold mayS; simp; omega)), HB1.out⟩
                case pos =>
                  by_cases a8 : threads ≤ 4
                  case neg =>
                    go_wp2_with fail
                    rw [← hW1]
                    first
                      | go_ret2
                      | go_ret
                    exact ⟨congrArg (fun b => Ending.returned (Value.bool b)) (HV.out _ (by unfold mayS; simp; omega)), HB1.out⟩
                  case pos =>
                    by_cases a9 : (0 : Int) ≤ runs
                    case neg =>
                      go_wp2_with fail
                      rw [← hW1]
                      first
                        | go_ret2
                        | go_ret
                      exact ⟨congrArg (fun b => Ending.returned (Value.bool b)) (HV.out _ (by unfold mayS; simp; omega)), HB1.out⟩
                    case pos =>
                      by_cases a10 : runs < threads
                      case neg =>
                        go_wp2_with fail
                        rw [← hW1]
                        first
                          | go_ret2
                          | go_ret
                        exact ⟨congrArg (fun b => Ending.returned (Value.bool b)) (HV.out _ (by unfold mayS; simp; omega)), HB1.out⟩
                      case pos =>
                        by_cases a11 : pil ≤ 15
                        case neg =>
                          go_wp2_with fail
                          rw [← hW1]
                          first
                            | go_ret2
                            | go_ret
                          exact ⟨congrArg (fun b => Ending.returned (Value.bool b)) (HV.out _ (by unfold mayS; simp; omega)), HB1.out⟩
                        case pos =>
                          by_cases a12 : flags ≤ 15
                          case neg =>
                            go_wp2_with fail
                            rw [← hW1]
                            first
                              | go_ret2
                              | go_ret
                            exact ⟨congrArg (fun b => Ending.returned (Value.bool b)) (HV.out _ (by unfold mayS; simp; omega)), HB1.out⟩
                          case pos =>
                            by_cases a13 : (regs.length : Int) ≤ 512
                            case neg =>
                              go_wp2_with fail
                              rw [← hW1]
                              first
                                | go_ret2
                                | go_ret
                              exact ⟨congrArg (fun b => Ending.returned (Value.bool b)) (HV.out _ (by unfold mayS; simp; omega)), HB1.out⟩
                            case pos =>
                              by_cases a14 : (frames.length : Int) ≤ 64
                              case neg =>
                                go_wp2_with fail
                                rw [← hW1]
                                first
                                  | go_ret2
                                  | go_ret
                                exact ⟨congrArg (fun b => Ending.returned (Value.bool b)) (HV.out _ (by unfold mayS; simp; omega)), HB1.out⟩
                              case pos =>
                                go_wp2_with fail
                                rw [← hW1]
                                first
                                  | go_ret2
                                  | go_ret
                                exact ⟨congrArg (fun b => Ending.returned (Value.bool b)) (HV.out _ (by unfold mayS; simp; omega)), HB1.out⟩
end Go.Proofs.YtajholbcpmjhiaaGreatDoor
/- The walks of muntinref03.New and muntinref06.New. -/
namespace Go.Proofs.YtajholbcpmjhiaaGreatDoor
open Go.RowKit
theorem rf_new_ok (n : Nat) (h2 : 2 ≤ n) (h32 : n ≤ 32) (w : World) : Calls Tryz.prog 67 #[.int .i64 n] w fun e w' => e = .returned (.tuple #[.agg #[.int .i64 n, .slice none 0 0], .int .i64 0]) ∧ Below w.heap.size w w' := by
  have c1 : ¬ ((n : Int) < 2) := by omega
  have c2 : ¬ ((n : Int) > 32) := by omega
  have c3 : ¬ (32 < (n : Int)) := by omega
  go_enter Tryz.func67, Tryz.ntmps67
  go_wp2_with fail
  have hR := ARow.fresh w 55 #[.int .i64 n, .slice none 0 0]
  have s0 := hR.cell (k := 0) rfl
  have s1 := hR.cell (k := 1) rfl
  have hb : Below w.heap.size w (w.alloc (.cells #[.int .i64 n, .slice none 0 0] 55)) := (Below.refl _ _).alloc (Nat.le_refl _) _
  clear hR
  generalize w.alloc (.cells #[.int .i64 n, .slice none 0 0] 55) = W at *
  refine bodyPost_ret (by simp [results, Tryz.results67, go_sem, s0, s1]; try rfl) rfl ?_
  exact ⟨rfl, hb⟩
end Go.Proofs.YtajholbcpmjhiaaGreatDoor
/- The walk of muntinlaw08.world. -/
namespace Go.Proofs.YtajholbcpmjhiaaGreatDoor
open Go.RowKit Go.Maps
theorem wfield_psr0 (a b c d : Value) (w : World) : (Instr.field 47 (.agg #[a, b, c, d]) 0).run Tryz.prog w = .ok a w := by kernel_rfl
theorem infobyte : (Tryz.prog.info? 5).map (fun i => (i.zero, i.size, i.bytes)) = some (some (.int .u8 0), 1, 1) := by kernel_rfl
theorem refat_made (w : World) (n : Nat) (hn : n ≤ 4194304) : RefAt (w.alloc (.cells (madeCells #[.int .u8 0] n) 5)) 0 w.heap.size n (List.replicate n 0) := by
  have hr : (madeCells #[.int .u8 0] n).toList = u8s (List.replicate n 0) := by
    unfold u8s; rw [List.map_replicate]; exact toList_madeCells_one _ n
  have hsz : (madeCells #[.int .u8 0] n).size = n := by have := congrArg List.length hr; simpa [u8s] using this
  have h := RefAt.mk' (w := w.alloc (.cells (madeCells #[.int .u8 0] n) 5)) (B := 0) (g := w.heap.size) (cap := n) (d := List.replicate n 0) (cur := madeCells #[.int .u8 0] n) (Bytes.zeros n) (by simpa using hn) (Nat.zero_le _) (heap_alloc_new w _) (by simp) (by unfold maxLen; omega) hsz (by rw [hr]; simp [u8s])
  simpa using h
structure QW (w0 w wr : World) (G : MG) (M : Nat) (m : Mx) (B g0 : Nat) (f' : Fx) (N : Nat) (lv : Value) (inv : Int) : Prop where
  q : ARow wr B 58 [.int .i64 m.f.nw, lv, .slice (some ⟨g0, 0, none⟩) m.mem.length m.mem.length, .int .i64 m.p.cwp, .int .i64 inv]
  r : ARow wr w.heap.size 58 [.int .i64 0, .slice none 0 0, .slice none 0 0, .int .i64 0, .int .i64 0]
  log : ∃ L, LogIn wr lv L ∧ LogOf L f' ∧ L.length ≤ N
  own : ∀ k, lv.ownBlock = some k → B < k
  mem : RefAt wr 0 g0 m.mem.length (List.replicate m.mem.length 0)
  mis : MIs w0 wr G M m
  bel : Below w.heap.size w wr
  lo : w.heap.size < g0 ∧ g0 < B ∧ w0.heap.size ≤ w.heap.size
  mlt : ∀ k, G.R k ≠ .none → k < w.heap.size
section
variable {w0 w wr w' : World} {G : MG} {M : Nat} {m : Mx} {B g0 : Nat} {f' : Fx} {N : Nat} {lv : Value} {inv : Int}
theorem QW.keep (h : QW w0 w wr G M m B g0 f' N lv inv) (hb : Below wr.heap.size wr w') : QW w0 w w' G M m B g0 f' N lv inv := by
  obtain ⟨h1, h2, ⟨L, h3, h4⟩, h5, h6, h7, h8, h9, h10⟩ := h
  exact ⟨h1.below hb, h2.below hb, ⟨L, h3.keep hb, h4⟩, h5, refat_below h6 hb, h7.keepb hb, h8.trans (hb.mono h8.size), h9, h10⟩
theorem QW.only (h : QW w0 w wr G M m B g0 f' N lv inv) (o : Only (fun k => k = B) wr w') : ARow w' w.heap.size 58 [.int .i64 0, .slice none 0 0, .slice none 0 0, .int .i64 0, .int .i64 0] ∧ RefAt w' 0 g0 m.mem.length (List.replicate m.mem.length 0) ∧ MIs w0 w' G M m ∧ Below w.heap.size w w' := by
  have hl := h.lo
  refine ⟨h.r.of_block (o.block _ h.r.lt (by omega)), h.mem.keep o (by omega), ⟨h.mis.at'.keep o (fun k hk e => ?_), h.mis.lo, ?_⟩, ?_⟩
  · have := h.mlt k hk
    have e : k = B := e
    omega
  · exact h.mis.bel.trans (o.below h.mis.bel.size (fun k hk hS => by have hS : k = B := hS; omega))
  · exact h.bel.trans (o.below h.bel.size (fun k hk hS => by have hS : k = B := hS; omega))
theorem QW.file (h : QW w0 w wr G M m B g0 f' N lv inv) {lv' : Value} {L : List Sd} {f2 : Fx} {N' : Nat} (hl : LogIn wr lv' L) (hs : LogOf L f2) (hn : L.length ≤ N') (ho : ∀ k, lv'.ownBlock = some k → B < k) :
    QW w0 w ((wr.setCell ⟨B, 0, none⟩ (.int .i64 m.f.nw)).setCell ⟨B, 1, none⟩ lv') G M m B g0 f2 N' lv' inv := by
  have o : Only (fun k => k = B) wr ((wr.setCell ⟨B, 0, none⟩ (.int .i64 m.f.nw)).setCell ⟨B, 1, none⟩ lv') := ((Only.refl (fun k => k = B) wr).setCell (p := ⟨B, 0, none⟩) rfl _).setCell (p := ⟨B, 1, none⟩) rfl _
  obtain ⟨h1, h2, h3, h4⟩ := h.only o
  exact ⟨(h.q.set 0 (.int .i64 m.f.nw)).set 1 lv', h1, ⟨L, hl.only o (fun k hk e => by have := ho k hk; have e : k = B := e; omega), hs, hn⟩, ho, h2, h3, h4, h.lo, h.mlt⟩
theorem QW.invalid (h : QW w0 w wr G M m B g0 f' N lv inv) (x : Int) : QW w0 w (wr.setCell ⟨B, 4, none⟩ (.int .i64 x)) G M m B g0 f' N lv x := by
  have o : Only (fun k => k = B) wr (wr.setCell ⟨B, 4, none⟩ (.int .i64 x)) := (Only.refl (fun k => k = B) wr).setCell (p := ⟨B, 4, none⟩) rfl _
  obtain ⟨h1, h2, h3, h4⟩ := h.only o
  obtain ⟨L, hl, hs, hn⟩ := h.log
  exact ⟨h.q.set 4 (.int .i64 x), h1, ⟨L, hl.only o (fun k hk e => by have := h.own k hk; have e : k = B := e; omega), hs, hn⟩, h.own, h2, h3, h4, h.lo, h.mlt⟩
end
theorem quarter {len n4 : Nat} (h : len ≤ 8192) (hd : len % 4 = 0) (hn : len / 4 = n4) : wrap64 (n4 : Int) = (n4 : Int) ∧ spanE len 0 (n4 : Int) 4 = 0 ∧ n4 ≤ maxLen ∧ len = 4 * n4 ∧ (n4 : Int) ≤ 9223372036854775807 := by
  have h1 : n4 ≤ 2048 := by omega
  refine ⟨IntWalk.wrap64_in _ (by omega), ?_, Nat.le_trans h1 (by decide), by omega, by omega⟩
  unfold spanE; rw [if_neg (by omega), if_neg (by omega), if_neg (by omega)]
end Go.Proofs.YtajholbcpmjhiaaGreatDoor
/- Plain law: the world that muntinlaw10 looks at: windows and bytes; globals are not there. -/
namespace Go.Proofs.YtajholbcpmjhiaaGreatDoor
open Go.RowKit
structure FWin (f g : Fx) (k : Nat) : Prop where
  way : FWay f g k 0 0
  glo : f.glo = (Fx.new g.nw).glo
theorem FWin.new {g : Fx} (hg : g.ok) : FWin (Fx.new g.nw) g 0 := ⟨FWay.new hg, rfl⟩
theorem FWin.window {f g : Fx} {k : Nat} (h : FWin f g k) (hg : g.ok) (hk : k < g.nw) : FWin (setsF f k (winR g k) 16) g (k + 1) :=
  ⟨h.way.window hg hk, by rw [setsF_all h.way.ok (by rw [h.way.nw]; exact hk) (winR_len hg hk)]; exact h.glo⟩
structure FZero (f g : Fx) : Prop where
  nw : f.nw = g.nw
  win : ∀ w : Nat, w < g.nw → winR f w = winR g w
  glo : ∀ k r : Nat, k < 16 → r < 8 → getV f 0 k r = 0
theorem glo_new (n k : Nat) : (Fx.new n).glo.getD k 0 = 0 := by
  unfold Fx.new
  simp only [List.getD_eq_getElem?_getD, List.getElem?_replicate]
  split <;> rfl
theorem FWin.fin {f g : Fx} (h : FWin f g g.nw) : FZero f g :=
  ⟨h.way.nw, fun w hw => h.way.win w hw hw, fun k r hk hr => by rw [getV_glob h.way.ok (by omega) hr, h.glo, glo_new]; split <;> rfl⟩
def bytesTo (d : List Int) (n : Nat) : List Int := d.take n ++ List.replicate (d.length - n) 0
theorem bytesTo_all (d : List Int) : bytesTo d d.length = d := by unfold bytesTo; simp
theorem bytesTo_set {d : List Int} {n : Nat} (hn : n < d.length) : (bytesTo d n).set n (d.getD n 0) = bytesTo d (n + 1) := by
  unfold bytesTo
  rw [List.set_append_right _ _ (by rw [List.length_take]; omega), List.length_take, Nat.min_eq_left (by omega), Nat.sub_self, show d.length - n = (d.length - (n + 1)) + 1 by omega, List.replicate_succ, List.set_cons_zero, List.take_succ_eq_append_getElem hn, List.append_assoc, List.getD_eq_getElem?_getD, List.getElem?_eq_getElem hn]
  rfl
theorem byte_of {d : List Int} (hb : Bytes d) (a : Nat) : ∀ k : Nat, k < 4 → (loadS d a 4).toNat / 2 ^ (24 - 8 * k) % 256 = (d.getD (a + k) 0).toNat ∧ 0 ≤ d.getD (a + k) 0 ∧ d.getD (a + k) 0 < 256 := by
  have bd : ∀ i, 0 ≤ d.getD i 0 ∧ d.getD i 0 < 256 := fun i => by
    rw [List.getD_eq_getElem?_getD]
    rcases Nat.lt_or_ge i d.length with h | h
    · rw [List.getElem?_eq_getElem h]; exact hb _ (List.getElem_mem h)
    · rw [List.getElem?_eq_none h]; simp
  have h0 := bd a
  have h1 := bd (a + 1)
  have h2 := bd (a + 2)
  have h3 := bd (a + 3)
  intro k hk
  refine ⟨?_, bd _⟩
  unfold loadS
  rw [if_pos rfl]
  have : k = 0 ∨ k = 1 ∨ k = 2 ∨ k = 3 := by omega
  rcases this with rfl | rfl | rfl | rfl
  · simp only [Nat.add_zero, Nat.mul_zero, Nat.sub_zero, Nat.reducePow]; omega
  · simp only [Nat.reduceMul, Nat.reduceSub, Nat.reducePow]; omega
  · simp only [Nat.reduceMul, Nat.reduceSub, Nat.reducePow]; omega
  · simp only [Nat.reduceMul, Nat.reduceSub, Nat.reducePow]; omega
end Go.Proofs.YtajholbcpmjhiaaGreatDoor
