/- Several texts in one: WindA, LexRange, WindEach. -/
import Derived.Test.YtajholbcpmjhiaaGreatDoorH01
import Derived.Test.YtajholbcpmjhiaaGreatDoorH02
import Derived.Test.YtajholbcpmjhiaaGreatDoorH03
import Derived.Test.YtajholbcpmjhiaaGreatDoorH05
import Derived.Test.YtajholbcpmjhiaaGreatDoorH06
import Derived.Test.YtajholbcpmjhiaaGreatDoorH07
import Derived.Test.YtajholbcpmjhiaaGreatDoorH08
import Derived.Test.YtajholbcpmjhiaaGreatDoorH09
import Derived.Test.YtajholbcpmjhiaaGreatDoorH10
import Derived.Test.YtajholbcpmjhiaaGreatDoorH26
import Derived.Test.YtajholbcpmjhiaaGreatDoorH27
import Derived.Test.YtajholbcpmjhiaaGreatDoorH28
import Derived.Test.YtajholbcpmjhiaaGreatDoorH29
import Derived.Test.YtajholbcpmjhiaaGreatDoorH30
import Derived.Test.YtajholbcpmjhiaaGreatDoorH31
import Derived.WalkKit
import Derived.Test.YtajholbcpmjhiaaGreatDoorProg
import Derived.WalkSpells
import Derived.WalkLawsBesides
import Derived.RegionTactic
import Derived.Outline
import Derived.BigRegion
import Derived.ChangeAlike
import Derived.Deep.QuietTactic
import Derived.BigQuiet
import Derived.StillTailTactics
import Derived.Laws.AppendOwn
import Derived.Below
import Derived.Maps.OwnSet
import Derived.Maps.Views
import Derived.Laws.AppendOwnNone
import Derived.Handy
import Derived.WalkArith
import Derived.OneCell
import Derived.ArgAppend
import Derived.Lib.SliceRun
import Derived.Shelf.SlMaps.Clone
import Derived.Deep.RegionHeld3
import Derived.Deep.AppendLies
import Derived.Lib.BitFns
import Derived.Deep.Cut
import Derived.BigGuardPart
import Derived.Lib.ParseIntB
import Derived.Lib.ItoaNum
import Derived.Shelf.Strings.Cut
import Derived.Shelf.Small.Wraps
import Derived.Shelf.Pu.ParseUintPublic10
import Derived.Shelf.Strconv.Itoa3
import Derived.WalkSmall
import Derived.Lib.IndexMore
import Derived.RangeFuncNested
import Derived.RangeFuncBound
import Derived.RangeFuncCalls
import Derived.RangeFuncLeaves
import Derived.Shelf.Abstract
import Derived.Shelf.RegionOpen
import Derived.OwnWalkIn
import Derived.TacticsInMore
import Derived.LoopNIn
import Derived.LoopIn
import Derived.RegionIn
/- Walks of the package wind: its small functions. -/
namespace Go.Proofs.YtajholbcpmjhiaaGreatDoor
open Go.RowKit
set_option linter.unusedVariables false
set_option linter.unusedSimpArgs false
theorem walu_any {op rd rs n : Int} (h : 0 ≤ op ∧ op < 200) (w : World) :
    Calls Tryz.prog 115 #[.int .u8 op, .int .u8 rd, .int .u8 rs, .int .i32 n] w fun e w' => e = .returned (aluI op rd rs n).agg ∧ Below w.heap.size w w' := by
  have w8 : IntKind.u8.wrap (1 + op) = 1 + op := IntWalk.u8_in _ (by omega)
  go_enter Tryz.func115, Tryz.ntmps115
  go_wp2_with fail
  refine bodyPost_ret (v := (aluI op rd rs n).agg) (by simp [results, Tryz.results115, go_sem, aluI]; try rfl) rfl ?_
  exact ⟨rfl, (Below.refl _ w).alloc (Nat.le_refl _) _⟩
theorem wboth_any {op rd a b : Int} (h : 0 ≤ op ∧ op < 200) (w : World) :
    Calls Tryz.prog 183 #[.int .u8 op, .int .u8 rd, .int .u8 a, .int .u8 b] w fun e w' => e = .returned (bothI op rd a b).agg ∧ Below w.heap.size w w' := by
  have w8 : IntKind.u8.wrap (1 + op) = 1 + op := IntWalk.u8_in _ (by omega)
  go_enter Tryz.func183, Tryz.ntmps183
  go_wp2_with fail
  refine bodyPost_ret (v := (bothI op rd a b).agg) (by simp [results, Tryz.results183, go_sem, bothI]; try rfl) rfl ?_
  exact ⟨rfl, (Below.refl _ w).alloc (Nat.le_refl _) _⟩
section
variable {W w : World} {pa : Nat} {S : Nat → Prop} {s : Bs}
theorem wend_any (h : BsAt W w pa S s) (hL : s.L.length + 10 < 4294967296) :
    Calls Tryz.prog 120 #[.pointer (some ⟨pa, 0, none⟩)] w fun e w' => e = .returned (.int .i64 0) ∧ BsGo W w pa S (s.put endI) w' := by
  have HP := ahid (fun (w1 : World) (hb : Below w.heap.size w w1) => bs_lit h (l := endI) (by decide) (by decide) (by simp [endI]; omega) hb)
  clear h
  go_enter Tryz.func120, Tryz.ntmps120
  go_wp2_with fail
  refine (HP.out w (Below.refl _ _)).mono ?_
  rintro e w4 ⟨rfl, hg⟩
  have HG := ahid hg
  clear hg
  go_wp2_with fail
  go_ret
  exact ⟨rfl, HG.out⟩
theorem wwindow_any (h : BsAt W w pa S s) (hL : s.L.length + 10 < 4294967296) :
    Calls Tryz.prog 118 #[.pointer (some ⟨pa, 0, none⟩)] w fun e w' => e = .returned (.tuple #[]) ∧ BsGo W w pa S (s.put windowI) w' := by
  have HP := ahid (fun (w1 : World) (hb : Below w.heap.size w w1) => bs_lit h (l := windowI) (by decide) (by decide) (by simp [windowI]; omega) hb)
  clear h
  go_enter Tryz.func118, Tryz.ntmps118
  go_wp2_with fail
  refine (walu_any (op := 5) (by omega) w).mono ?_
  rintro e w1 ⟨rfl, hb1⟩
  go_wp2_with fail
  refine (wboth_any (op := 6) (by omega) w1).mono ?_
  rintro e w2 ⟨rfl, hb2⟩
  have HB := ahid (hb1.trans (hb2.mono hb1.size))
  clear hb1 hb2
  go_wp2_with fail
  refine (HP.out w2 HB.out).mono ?_
  rintro e w4 ⟨rfl, hg⟩
  have HG := ahid hg
  clear hg
  go_wp2_with fail
  go_end0
  exact ⟨rfl, HG.out⟩
theorem wturned_any (h : BsAt W w pa S s) {nw : Nat} (h2 : 2 ≤ nw) (h32 : nw ≤ 32) {this that : Int} (ht : (this = 9 ∧ that = 8) ∨ (this = 8 ∧ that = 9)) (hL : s.L.length + 10 < 4294967296) :
    Calls Tryz.prog 114 #[.pointer (some ⟨pa, 0, none⟩), .int .i64 (nw : Int), .int .u8 this, .int .u8 that] w fun e w' => e = .returned (.tuple #[]) ∧ BsGo W w pa S (s.turned nw this that) w' := by
  have hok : allI (turnedA nw this that) := by
    have := turned_ok nw (by omega) h2
    rcases ht with ⟨rfl, rfl⟩ | ⟨rfl, rfl⟩
    · exact this.1
    · exact this.2
  have h8 : (0 ≤ this ∧ this < 200) ∧ (0 ≤ that ∧ that < 200) := by omega
  have HP := ahid (fun (w1 : World) (hb : Below w.heap.size w w1) => bs_lit h (l := turnedA nw this that) hok (by simp [turnedA]) (by simp [turnedA]; omega) hb)
  have e1 : IntKind.i64.wrap ((nw : Int) - 1) = (nw : Int) - 1 := IntWalk.i64_in _ (by omega)
  have e2 : IntKind.i32.wrap ((nw : Int) - 1) = (nw : Int) - 1 := IntWalk.i32_in _ (by omega)
  clear h hok ht
  by_cases hlt : nw < 32
  · have hti : (nw : Int) < 32 := by omega
    have HT := ahid (show s.turned nw this that = ((s.put (turnedA nw this that)).put (partsS 1 ((2 : Int) ^ nw - 1))).put [bothI 5 2 2 1] from if_pos hlt)
    rw [HT.out]
    obtain ⟨s4, hs4⟩ : ∃ x, x = s.put (turnedA nw this that) := ⟨_, rfl⟩
    have hL4 : s4.L.length = s.L.length + 4 := by rw [hs4]; exact Bs.put_len _ _
    rw [← hs4] at HP ⊢
    obtain ⟨s5, hs5⟩ : ∃ x, x = s4.put (partsS 1 ((2 : Int) ^ nw - 1)) := ⟨_, rfl⟩
    have hL5 : s5.L.length ≤ s4.L.length + 2 := by rw [hs5, Bs.put_len]; have := parts_len 1 ((2 : Int) ^ nw - 1); omega
    have HS5 := ahid hs5
    rw [← hs5]
    clear hs4 hs5 HT
    go_enter Tryz.func114, Tryz.ntmps114
    go_wp2_with fail
    refine (walu_any (op := this) h8.1 w).mono ?_
    rintro e w1 ⟨rfl, hb1⟩
    go_wp2_with fail
    refine (walu_any (op := that) h8.2 w1).mono ?_
    rintro e w2 ⟨rfl, hb2⟩
    go_wp2_with fail
    refine (wboth_any (op := 6) (by omega) w2).mono ?_
    rintro e w3 ⟨rfl, hb3⟩
    have HB := ahid (hb1.trans ((hb2.trans (hb3.mono hb2.size)).mono hb1.size))
    clear hb1 hb2 hb3
    go_wp2_with fail
    refine (HP.out w3 HB.out).mono ?_
    rintro e w4 ⟨rfl, S4, h4, o4, r4⟩
    have H4 := ahid h4
    clear h4
    go_wp2_with fail
    obtain ⟨q1, q2, q3⟩ := pow_ok nw hlt
    rw [q1]
    refine (bs_const H4.out (rd := 1) (by omega) (by omega) q2 q3 (by omega)).mono ?_
    rintro e w5 ⟨rfl, hg5⟩
    rw [← HS5.out] at hg5
    obtain ⟨S5, h5, o5, r5⟩ := hg5
    have H5 := ahid h5
    clear h5 q1 q2 q3
    have HP5 := ahid (fun (w1 : World) (hb : Below w5.heap.size w5 w1) => bs_lit H5.out (l := [bothI 5 2 2 1]) (by decide) (by decide) (by simp; omega) hb)
    go_wp2_with fail
    refine (wboth_any (op := 5) (by omega) w5).mono ?_
    rintro e w6 ⟨rfl, hb6⟩
    go_wp2_with fail
    refine (HP5.out w6 hb6).mono ?_
    rintro e w7 ⟨rfl, hg⟩
    have HG := ahid (BsGo.then o4 r4 (BsGo.then o5 r5 hg))
    clear hg
    go_wp2_with fail
    go_end0
    exact ⟨rfl, HG.out⟩
  · have hti : ¬ (nw : Int) < 32 := by omega
    have HT := ahid (show s.turned nw this that = s.put (turnedA nw this that) from if_neg hlt)
    rw [HT.out]
    go_enter Tryz.func114, Tryz.ntmps114
    go_wp2_with fail
    refine (walu_any (op := this) h8.1 w).mono ?_
    rintro e w1 ⟨rfl, hb1⟩
    go_wp2_with fail
    refine (walu_any (op := that) h8.2 w1).mono ?_
    rintro e w2 ⟨rfl, hb2⟩
    go_wp2_with fail
    refine (wboth_any (op := 6) (by omega) w2).mono ?_
    rintro e w3 ⟨rfl, hb3⟩
    have HB := ahid (hb1.trans ((hb2.trans (hb3.mono hb2.size)).mono hb1.size))
    clear hb1 hb2 hb3
    go_wp2_with fail
    refine (HP.out w3 HB.out).mono ?_
    rintro e w4 ⟨rfl, hg⟩
    have HG := ahid hg
    clear hg
    go_wp2_with fail
    go_end0
    exact ⟨rfl, HG.out⟩
/-- The list is there: its copy is. -/
theorem bs_copy (h : BsAt W w pa S s) (hL : s.L.length < 4294967296) :
    Calls Tryz.prog 81 #[.pointer (some ⟨pa, 0, none⟩)] w fun e w' => (∃ q, e = .returned (.pointer (some ⟨q, 0, none⟩))) ∧ Below w.heap.size w w' := by
  obtain ⟨sv, m, K, hA, hO, hK⟩ := h.lst.ex
  refine (acopy_any w pa m sv K s.L s.M hA hL).mono ?_
  rintro e w' ⟨p, v, m', rfl, -, -, hb⟩
  exact ⟨⟨p, rfl⟩, hb⟩
theorem okE_yes {nw : Nat} (h2 : 2 ≤ nw) (h32 : nw ≤ 32) : okE 0 nw = 0 := by
  have : ∀ n : Nat, n < 33 → 2 ≤ n → okE 0 n = 0 := by decide
  exact this nw (by omega) h2
theorem wbegin_any (h : BsAt W w pa S s) {nw : Nat} (h2 : 2 ≤ nw) (h32 : nw ≤ 32) {nm : List UInt8} (hs : nm.length ≤ 100) (hn : look s.M nm = none) (hM : s.M.length < 4294967296) (hL : s.L.length < 4294967296) :
    Calls Tryz.prog 113 #[.pointer (some ⟨pa, 0, none⟩), .int .i64 (nw : Int), .string ⟨nm.toArray⟩] w fun e w' => e = .returned (.int .i64 0) ∧ BsGo W w pa S (s.mark nm) w' := by
  have HC := ahid (bs_copy h hL)
  have H := ahid h
  have HK := ahid (okE_yes h2 h32)
  clear h
  go_enter Tryz.func113, Tryz.ntmps113
  go_wp2_with fail
  refine HC.out.mono ?_
  rintro e w1 ⟨⟨q, rfl⟩, hb1⟩
  go_wp2_with fail
  refine (wim_any 0 nw w1).mono ?_
  rintro e w2 ⟨rfl, hb2⟩
  rw [HK.out]
  have HB := ahid (hb1.trans (hb2.mono hb1.size))
  clear hb1 hb2
  go_wp2_with fail
  refine (bs_mark (H.out.keepb HB.out) hs hn hM hL).mono ?_
  rintro e w3 ⟨rfl, hg⟩
  have HG := ahid (hg.behind HB.out)
  clear hg
  go_wp2_with fail
  go_ret
  exact ⟨rfl, HG.out⟩
end
end Go.Proofs.YtajholbcpmjhiaaGreatDoor
/- Ranges over functions, met by hand: the statement, and one round. No function of the program is walked here. -/
namespace Go.Proofs.YtajholbcpmjhiaaGreatDoor
open Go.RowKit Go.Shelf
set_option linter.unusedVariables false
/-- The record of a loop. -/
def RecOf (rec : LoopState → Option Code → Loop) (fn : FuncId) (tmps : Array Value) (ps : Array Tmp) (assign body : Code) (D : Nat) : Prop :=
  ∀ st pe, rec st pe = { state := st, pending := pe, fn := fn, tmps := tmps, params := ps, assign := assign, body := body, defers := D }
theorem range_outer {F : Fence} {n : Nat} {P : Program} {g : Operand} {ps : Array Tmp} {assign body : Code} {Q : Exit → Act → World → Prop} {a : Act} {w : World} (hro : F.round = none) (h1 : 1 ≤ n) {gf : Nat} {lb : Array Value}
    (hg : a.eval g = .func (.func gf) #[] lb) (hF : F.fn gf) (eg : ∀ args w, (callFunc gf args).run P w = .ok (.enter gf args) w)
    (h : ∀ fn rec, F.fn fn → RecOf rec fn a.tmps ps assign body w.heap.size →
      CallsIn F (n - 1) P gf (#[.func (.yield (w.heap.size + 1)) #[] #[]] ++ lb) ((w.alloc (.deferred (some []))).alloc (.loop (rec .ready none))) (rangePost F n P (w.heap.size + 1) Q { a with defers := { target := .collected w.heap.size, args := #[] } :: a.defers })) :
    (Code.rangeFunc g ps assign body).wpIn F n P Q a w := by
  refine wpIn_rangeFunc fun fn hfn => ?_
  rw [hro]
  have h2 := h fn (fun st pe => { state := st, pending := pe, fn := fn, tmps := a.tmps, params := ps, assign := assign, body := body, defers := w.heap.size }) hfn (fun _ _ => rfl)
  obtain ⟨W1, hW1⟩ : ∃ W1, ((w.alloc (.deferred (some []))).alloc (.loop { state := .ready, pending := none, fn := fn, tmps := a.tmps, params := ps, assign := assign, body := body, defers := w.heap.size })) = W1 := ⟨_, rfl⟩
  refine ⟨w.heap.size + 1, [{ target := .collected w.heap.size, args := #[] }], W1, { target := .fn (.func gf) lb, args := #[.func (.yield (w.heap.size + 1)) #[] #[]] }, W1, gf, #[.func (.yield (w.heap.size + 1)) #[] #[]] ++ lb, W1, ?_, ?_, fun f' hf' => ?_, ?_, fun _ => h1, ?_⟩
  · rw [← hW1]; exact run_enterLoop_outer _ _ _ _ _
  · simp only [resolve, hg]
    simp [go_sem]
  · simp [Target.leads] at hf'
    subst hf'
    exact hF
  · simp [invoke, go_sem, eg]
  · rw [← hW1]; exact h2
/-- How a round may end: R says of what world. -/
def roundEnd (rec : LoopState → Option Code → Loop) (l : Nat) (R : Ending → World → Prop) : Exit → Act → World → Prop
  | .normal, _, w => w.heap[l]? = some (.loop (rec .busy none)) ∧ R (.returned (.bool true)) (w.putObj l (.loop (rec .ready none)))
  | .ret, _, w => w.heap[l]? = some (.loop (rec .busy none)) ∧ R (.returned (.bool false)) (w.putObj l (.loop (rec .done (some .ret))))
  | .exit id, _, w => w.heap[l]? = some (.loop (rec .busy none)) ∧ R (.returned (.bool false)) (w.putObj l (.loop (rec .done (some (.exit id)))))
  | .goto t, _, w => w.heap[l]? = some (.loop (rec .busy none)) ∧ R (.returned (.bool false)) (w.putObj l (.loop (rec .done (some (.goto t)))))
  | .panic _, _, _ => False
  | .outgrown, _, _ => False
theorem one_round {F : Fence} {n : Nat} {P : Program} {l D : Nat} {rec : LoopState → Option Code → Loop} {fn : FuncId} {tmps args : Array Value} {ps : Array Tmp} {assign body : Code} {W : World} {R : Ending → World → Prop}
    (hfn : F.fn fn) (hrec : RecOf rec fn tmps ps assign body D) (hl : W.heap[l]? = some (.loop (rec .ready none))) (hs : args.size = ps.size)
    (h : assign.wpIn (F.inRound l) n P (Exit.then (fun a₁ w₁ => w₁.heap[l]? = some (.loop (rec .ready none)) ∧ body.wpIn (F.inRound l) n P (roundEnd rec l R) a₁ (w₁.putObj l (.loop (rec .busy none)))) (fun _ _ _ => False))
      { tmps := (ps.zip args).foldl (fun t (p, v) => t.setIfInBounds p v) tmps, defers := [] } W) : YieldAt F n P l args W R := by
  have hy := run_yield (P := P) (args := args) hl (by rw [hrec]; exact hs)
  rw [hrec] at hy
  refine ⟨fn, _, assign, body, hy, roundIn_of_wpIn hfn (wpIn_mono h ?_)⟩
  rintro e a1 w1 hp
  cases e with
  | normal =>
    obtain ⟨hl1, hb⟩ := hp
    have h2 := run_beginRound (P := P) hl1 (by rw [hrec])
    have e1 : ({ rec .ready none with state := .busy } : Loop) = rec .busy none := by rw [hrec, hrec]
    rw [e1] at h2
    refine ⟨_, h2, wpIn_mono hb ?_⟩
    have fin : ∀ (jump : Option Code) (W3 : World), W3.heap[l]? = some (.loop (rec .busy none)) →
        (Instr.endRound l jump).run P W3 = .ok (.bool jump.isNone) (W3.putObj l (.loop (rec (if jump.isNone then .ready else .done) jump))) := fun jump W3 h3 => by
      have h4 := run_endRound (P := P) jump h3
      rw [hrec] at h4 ⊢
      exact h4
    rintro e a3 W3 hq
    cases e with
    | normal => exact ⟨_, _, fin none W3 hq.1, hq.2⟩
    | ret => exact ⟨_, _, fin (some .ret) W3 hq.1, hq.2⟩
    | exit id => exact ⟨_, _, fin (some (.exit id)) W3 hq.1, hq.2⟩
    | goto t => exact ⟨_, _, fin (some (.goto t)) W3 hq.1, hq.2⟩
    | panic c => exact hq.elim
    | outgrown => exact hq.elim
  | ret => exact hp.elim
  | exit id => exact hp.elim
  | goto t => exact hp.elim
  | panic c => exact hp.elim
  | outgrown => exact hp.elim
/-- Behind the loop. -/
theorem range_done {F : Fence} {n : Nat} {P : Program} {l D : Nat} {rec : LoopState → Option Code → Loop} {fn : FuncId} {tmps : Array Value} {ps : Array Tmp} {assign body : Code} {Q : Exit → Act → World → Prop} {a : Act} {v : Value} {W : World}
    (hrec : RecOf rec fn tmps ps assign body D) (hl : W.heap[l]? = some (.loop (rec .ready none))) (h : Q .normal a (W.putObj l (.loop (rec .exhausted none)))) : rangePost F n P l Q a (.returned v) W := by
  have h2 := run_endLoop (P := P) hl (by rw [hrec]; simp)
  rw [hrec] at h2
  refine ⟨none, _, h2, ?_⟩
  rw [hrec] at h
  exact h
end Go.Proofs.YtajholbcpmjhiaaGreatDoor
/- Walks of the package wind: what stores, or loads, a frame. -/
namespace Go.Proofs.YtajholbcpmjhiaaGreatDoor
open Go.RowKit Go.Shelf
set_option linter.unusedVariables false
set_option linter.unusedSimpArgs false
attribute [local go_sem] Oper.semAt_some
theorem only_putObj (w : World) (g : Nat) (o : Obj) : Only (fun k => k = g) w (w.putObj g o) := ⟨rfl, rfl, rfl, by simp [World.putObj], fun k hk hne => World.putObj_heap_other hne⟩
theorem BsAt.only {W w w' : World} {pa : Nat} {S T : Nat → Prop} {s : Bs} (h : BsAt W w pa S s) (o : Only T w w') (hd : ∀ k, S k → ¬ T k) (hT : ∀ k, T k → W.heap.size ≤ k) : BsAt W w' pa S s :=
  ⟨h.lst.keep o hd, h.tab.keepO o hT, h.bel.trans (o.below h.bel.size (fun k hk hS => by have := hT k hS; omega))⟩
theorem row_cell {w : World} {k : Nat} {cs : Array Value} {t : TypeId} {fr : Nat × Nat} (h : w.heap[k]? = some (.cells cs t fr)) {j : Nat} {v : Value} (hj : cs[j]? = some v) : w.cell? ⟨k, j, none⟩ = some v := by
  simp [World.cell?, h, hj]
theorem row_frozen {w : World} {k : Nat} {cs : Array Value} {t : TypeId} (h : w.heap[k]? = some (.cells cs t (0, 0))) (j : Nat) : w.frozen? ⟨k, j, none⟩ = false := by
  simp [World.frozen?, h]
/-- Behind k rounds: the boxes at b, b + 1, b + 2, the records behind them. -/
structure EcAt (W w : World) (pa : Nat) (S : Nat → Prop) (s : Bs) (op : Int) (lo : Obj) (k : Nat) (wr : World) : Prop where
  bs : ∃ S', BsAt W wr pa S' (s.each op k) ∧ ∀ i, S' i → S i ∨ w.heap.size + 5 ≤ i
  only : Only S w wr
  r0 : wr.heap[w.heap.size]? = some (.cells #[.pointer (some ⟨pa, 0, none⟩)] 64 (0, 0))
  r1 : wr.heap[w.heap.size + 1]? = some (.cells #[.int .u8 op] 5 (0, 0))
  r2 : wr.heap[w.heap.size + 2]? = some (.cells #[.int .i64 0] 31 (0, 0))
  d : wr.heap[w.heap.size + 3]? = some (.deferred (some []))
  l : wr.heap[w.heap.size + 4]? = some lo
  sl : ∀ i, S i → i < w.heap.size
  wl : W.heap.size ≤ w.heap.size
section
variable {W w wr w' : World} {pa : Nat} {S : Nat → Prop} {s : Bs} {op : Int} {lo : Obj} {k : Nat}
theorem EcAt.lt (h : EcAt W w pa S s op lo k wr) : w.heap.size + 5 ≤ wr.heap.size := by
  have := (Array.getElem?_eq_some_iff.1 h.l).1
  omega
theorem EcAt.keepb (h : EcAt W w pa S s op lo k wr) (hb : Below wr.heap.size wr w') : EcAt W w pa S s op lo k w' := by
  obtain ⟨S', hs, hr⟩ := h.bs
  have hlt := h.lt
  have o : Only S wr w' := Only.of_below hb
  exact ⟨⟨S', hs.keepb hb, hr⟩, h.only.trans o, (hb.block _ (by omega)).trans h.r0, (hb.block _ (by omega)).trans h.r1, (hb.block _ (by omega)).trans h.r2, (hb.block _ (by omega)).trans h.d, (hb.block _ (by omega)).trans h.l, h.sl, h.wl⟩
/-- The list goes on. -/
theorem EcAt.goes {k' : Nat} (h : EcAt W w pa S s op lo k wr) {S' : Nat → Prop} (hr : ∀ i, S' i → S i ∨ w.heap.size + 5 ≤ i) (hg : BsGo W wr pa S' (s.each op k') w') : EcAt W w pa S s op lo k' w' := by
  obtain ⟨S2, h2, o2, r2⟩ := hg
  have hlt := h.lt
  have hno : ∀ i, w.heap.size ≤ i → i < w.heap.size + 5 → ¬ S' i := fun i h1 h2 h3 => by
    rcases hr i h3 with h4 | h4
    · have := h.sl i h4; omega
    · omega
  have hb : ∀ i, w.heap.size ≤ i → i < w.heap.size + 5 → w'.heap[i]? = wr.heap[i]? := fun i h1 h2 => o2.block i (by omega) (hno i h1 h2)
  refine ⟨⟨S2, h2, fun i hi => ?_⟩, h.only.fresh o2 (fun i hi hk => ?_), (hb _ (by omega) (by omega)).trans h.r0, (hb _ (by omega) (by omega)).trans h.r1, (hb _ (by omega) (by omega)).trans h.r2, (hb _ (by omega) (by omega)).trans h.d, (hb _ (by omega) (by omega)).trans h.l, h.sl, h.wl⟩
  · rcases r2 i hi with h3 | h3
    · exact hr i h3
    · exact .inr (by omega)
  · rcases hr i hk with h3 | h3
    · exact h3
    · omega
theorem EcAt.start (h : BsAt W w pa S s) (lo : Obj) : EcAt W w pa S s op lo 0 (((((w.alloc (.cells #[.pointer (some ⟨pa, 0, none⟩)] 64)).alloc (.cells #[.int .u8 op] 5)).alloc (.cells #[.int .i64 0] 31)).alloc (.deferred (some []))).alloc lo) := by
  have hb : Below w.heap.size w (((((w.alloc (.cells #[.pointer (some ⟨pa, 0, none⟩)] 64)).alloc (.cells #[.int .u8 op] 5)).alloc (.cells #[.int .i64 0] 31)).alloc (.deferred (some []))).alloc lo) :=
    (((((Below.refl _ w).alloc (Nat.le_refl _) _).alloc (by simp only [World.size_alloc]; omega) _).alloc (by simp only [World.size_alloc]; omega) _).alloc (by simp only [World.size_alloc]; omega) _).alloc (by simp only [World.size_alloc]; omega) _
  have n : ∀ (v : World) (o : Obj) (i : Nat), v.heap.size = i → (v.alloc o).heap[i]? = some o := fun v o i e => e ▸ World.alloc_heap_new v o
  have k : ∀ (v : World) (o : Obj) (i : Nat), i < v.heap.size → (v.alloc o).heap[i]? = v.heap[i]? := fun v o i e => Below.heap_alloc v o i e
  refine ⟨⟨S, h.keepb hb, fun i hi => .inl hi⟩, Only.of_below hb, ?_, ?_, ?_, ?_, ?_, fun i hi => (h.lst.lo i hi).2, h.bel.size⟩
  · rw [k _ _ _ (by simp only [World.size_alloc]; omega), k _ _ _ (by simp only [World.size_alloc]; omega), k _ _ _ (by simp only [World.size_alloc]; omega), k _ _ _ (by simp only [World.size_alloc]; omega), n _ _ _ rfl]
  · rw [k _ _ _ (by simp only [World.size_alloc]; omega), k _ _ _ (by simp only [World.size_alloc]; omega), k _ _ _ (by simp only [World.size_alloc]; omega), n _ _ _ (by simp only [World.size_alloc])]
  · rw [k _ _ _ (by simp only [World.size_alloc]; omega), k _ _ _ (by simp only [World.size_alloc]; omega), n _ _ _ (by simp only [World.size_alloc])]
  · rw [k _ _ _ (by simp only [World.size_alloc]; omega), n _ _ _ (by simp only [World.size_alloc])]
  · rw [n _ _ _ (by simp only [World.size_alloc])]
/-- A box or a record is stored. -/
theorem EcAt.put (h : EcAt W w pa S s op lo k wr) (lo' : Obj) : EcAt W w pa S s op lo' k (wr.putObj (w.heap.size + 4) lo') := by
  obtain ⟨S', hs, hr⟩ := h.bs
  have hlt := h.lt
  have o := only_putObj wr (w.heap.size + 4) lo'
  have hwl := h.wl
  have hb : ∀ i, i ≠ w.heap.size + 4 → (wr.putObj (w.heap.size + 4) lo').heap[i]? = wr.heap[i]? := fun i hi => World.putObj_heap_other hi
  refine ⟨⟨S', hs.only o (fun i hi e => ?_) (fun i e => by rw [e]; omega), hr⟩, h.only.fresh o (fun i hi e => by omega), (hb _ (by omega)).trans h.r0, (hb _ (by omega)).trans h.r1, (hb _ (by omega)).trans h.r2, (hb _ (by omega)).trans h.d, World.putObj_heap_same (by omega), h.sl, h.wl⟩
  subst e
  rcases hr _ hi with h3 | h3
  · have := h.sl _ h3; omega
  · omega
theorem EcAt.store (h : EcAt W w pa S s op lo k wr) : EcAt W w pa S s op lo k (wr.setCell ⟨w.heap.size + 2, 0, none⟩ (.int .i64 0)) := by
  obtain ⟨S', hs, hr⟩ := h.bs
  have hlt := h.lt
  have hwl := h.wl
  have o : Only (fun k => k = w.heap.size + 2) wr (wr.setCell ⟨w.heap.size + 2, 0, none⟩ (.int .i64 0)) := (Only.refl (fun k => k = w.heap.size + 2) wr).setCell (p := ⟨w.heap.size + 2, 0, none⟩) rfl _
  have hb : ∀ i, i < wr.heap.size → i ≠ w.heap.size + 2 → (wr.setCell ⟨w.heap.size + 2, 0, none⟩ (.int .i64 0)).heap[i]? = wr.heap[i]? := fun i hl hi => o.block i hl hi
  refine ⟨⟨S', hs.only o (fun i hi e => ?_) (fun i e => by rw [e]; omega), hr⟩, h.only.fresh o (fun i hi e => by omega), (hb _ (by omega) (by omega)).trans h.r0, (hb _ (by omega) (by omega)).trans h.r1, ?_, (hb _ (by omega) (by omega)).trans h.d, (hb _ (by omega) (by omega)).trans h.l, h.sl, h.wl⟩
  · subst e
    rcases hr _ hi with h3 | h3
    · have := h.sl _ h3; omega
    · omega
  · have h2 := h.r2
    simp only [World.setCell, Array.getElem?_modify, h2]
    simp
theorem EcAt.fin (h : EcAt W w pa S s op lo k wr) (o' : Obj) : BsGo W w pa S (s.each op k) (wr.putObj (w.heap.size + 3) o') := by
  obtain ⟨S', hs, hr⟩ := h.bs
  have hwl := h.wl
  have o := only_putObj wr (w.heap.size + 3) o'
  refine ⟨S', hs.only o (fun i hi e => ?_) (fun i e => by rw [e]; omega), h.only.fresh o (fun i hi e => by omega), fun i hi => (hr i hi).imp id (fun h2 => by omega)⟩
  subst e
  rcases hr _ hi with h3 | h3
  · have := h.sl _ h3; omega
  · omega
end
theorem frame_any (w : World) : Calls Tryz.prog 208 #[] w fun e w' => e = .returned (.func (.func 230) #[] #[]) ∧ w = w' := by
  go_enter Tryz.func208, Tryz.ntmps208
  go_wp2
  go_ret
  exact ⟨rfl, rfl⟩
set_option maxRecDepth 100000 in
set_option maxHeartbeats 4000000 in
/-- The registers of a frame, one by one. -/
theorem frame_calls (n : Nat) (hn : 1 ≤ n) (l : Nat) (J : Nat → World → Prop)
    (hY : ∀ k W1, k < 16 → J k W1 → YieldAt Fence.wide (n - 1) Tryz.prog l #[.int .u8 ((k : Int) + 16), .int .i32 (4 * (k : Int))] W1 fun e W' => e = .returned (.bool true) ∧ J (k + 1) W')
    (W : World) (h0 : J 0 W) :
    CallsIn Fence.wide n Tryz.prog 230 #[.func (.yield l) #[] #[]] W fun e W' => (∃ v, e = .returned v) ∧ J 16 W' := by
  refine callsIn_of_wp Tryz.func230 rfl trivial ?_ rfl
  simp only [Tryz.ntmps230, List.size_toArray, List.length_cons, List.length_nil, Nat.reduceAdd, Nat.reduceSub, Array.replicate_succ, Array.replicate_zero, List.push_toArray, List.append_toArray, List.nil_append, List.cons_append]
  gi_wp2
  gi_loopw [2] (fun i wr => ∃ k : Nat, k ≤ 16 ∧ i = .int .u8 ((k : Int) + 16) ∧ Hid (J k wr)) (fun i _ => 32 - (intOf i).toNat)
  case atStart => exact ⟨0, by omega, rfl, h0⟩
  case round =>
    obtain ⟨k, hk, rfl, hJ⟩ := hrel
    have HJ : Hid (J k wr) := hJ.out
    clear hJ
    by_cases hlt : k < 16
    · have g1 : (k : Int) + 16 < 32 := by omega
      have e1 : IntKind.u8.wrap ((k : Int) + 16 - 16) = (k : Int) := by rw [IntWalk.u8_in _ (by omega)]; omega
      have e2 : IntKind.i32.wrap ((k : Int) * 4) = 4 * (k : Int) := by rw [IntWalk.i32_in _ (by omega)]; omega
      have e3 : IntKind.u8.wrap ((k : Int) + 16 + 1) = ((k + 1 : Nat) : Int) + 16 := by rw [IntWalk.u8_in _ (by omega)]; omega
      gi_wp2
      obtain ⟨fn, tmps, assign, body, hy0, hR⟩ := hY k wr hlt HJ.out
      rw [show Sem.run Tryz.prog (Instr.yield l #[.int .u8 ((k : Int) + 16), .int .i32 (4 * (k : Int))]) wr = .ok (Next.round l fn tmps assign body) wr from hy0]
      clear hy0
      gi_wp2
      refine hR.mono ?_
      rintro e W3 ⟨rfl, hJ3⟩
      have HJ3 : Hid (J (k + 1) W3) := hJ3
      clear hJ3
      gi_wp2
      go_roundw
      case rel => exact ⟨k + 1, by omega, by first | rfl | go_num, HJ3.out⟩
      case measure => simp [intOf] <;> omega
    · obtain rfl : k = 16 := by omega
      have g1 : ¬ (((16 : Nat) : Int) + 16 < 32) := by omega
      gi_wp2_with (refine ⟨fun _ h => (by cases h), ?_⟩)
      go_end0
      exact ⟨⟨_, rfl⟩, HJ.out⟩
set_option maxRecDepth 100000 in
set_option maxHeartbeats 8000000 in
theorem weach_any {W w : World} {pa : Nat} {S : Nat → Prop} {s : Bs} (h : BsAt W w pa S s) {op : Int} (hop : op = 23 ∨ op = 22) (hL : s.L.length + 20 < 4294967296) :
    Calls Tryz.prog 186 #[.pointer (some ⟨pa, 0, none⟩), .int .u8 op] w fun e w' => e = .returned (.int .i64 0) ∧ BsGo W w pa S (s.each op 16) w' := by
  refine (callsIn_wide (n := 20)).1 ?_
  refine callsIn_of_wp_marks Tryz.func186 rfl trivial ?_ rfl
  simp only [Tryz.ntmps186, List.size_toArray, List.length_cons, List.length_nil, Nat.reduceAdd, Nat.reduceSub, Array.replicate_succ, Array.replicate_zero, List.push_toArray, List.append_toArray, List.nil_append, List.cons_append]
  gi_wp2_with fail
  refine ⟨trivial, (callsIn_wide.2 (frame_any _)).mono ?_⟩
  rintro e W2 ⟨rfl, rfl⟩
  gi_wp2_with fail
  have HS := ahid (fun lo => EcAt.start (op := op) h lo)
  have hsz3 : (((w.alloc (.cells #[.pointer (some ⟨pa, 0, none⟩)] 64)).alloc (.cells #[.int .u8 op] 5)).alloc (.cells #[.int .i64 0] 31)).heap.size = w.heap.size + 3 := by simp
  have HH := ahid h
  clear h
  revert HS hsz3
  generalize (((w.alloc (.cells #[.pointer (some ⟨pa, 0, none⟩)] 64)).alloc (.cells #[.int .u8 op] 5)).alloc (.cells #[.int .i64 0] 31)) = W2
  intro HS hsz3
  refine range_outer rfl (by omega) (gf := 230) (lb := #[]) rfl trivial (enters_of Tryz.func230 (by kernel_rfl) rfl) ?_
  intro fn rec hfn hrec
  rw [hsz3]
  have HOP := ahid hop
  obtain ⟨J, HJ⟩ : ∃ J : Nat → World → Prop, Hid (∀ k W', J k W' ↔ EcAt W w pa S s op (.loop (rec .ready none)) k W') := ⟨_, ahid fun _ _ => Iff.rfl⟩
  refine (frame_calls 19 (by omega) (w.heap.size + 4) J ?round _ ?start).mono ?behind
  case start => exact (HJ.out _ _).2 (HS.out _)
  case round =>
    intro k W1 hk hJ
    have HE := ahid ((HJ.out _ _).1 hJ)
    clear hJ
    refine one_round hfn hrec HE.out.l rfl ?_
    gi_wp2_with fail
    refine ⟨HE.out.l, ?_⟩
    have HB := ahid (HE.out.put (.loop (rec .busy none)))
    generalize W1.putObj (w.heap.size + 4) (.loop (rec .busy none)) = W3 at HB ⊢
    have c0 := row_cell HB.out.r0 (j := 0) rfl
    have c1 := row_cell HB.out.r1 (j := 0) rfl
    have c2 : W3.cell? ⟨w.heap.size + 1 + 1, 0, none⟩ = some (.int .i64 0) := row_cell HB.out.r2 (j := 0) rfl
    obtain ⟨S', hs, hr⟩ := HB.out.bs
    have HHS := ahid hs
    have HHR := ahid hr
    clear hs hr hop
    gi_wp2_with fail
    have hok : allI [eachI op k] := by
      rcases HOP.out with e | e
      · rw [e]; exact (each_ok k hk).1
      · rw [e]; exact (each_ok k hk).2
    refine ⟨trivial, (CallsIn.inRound (w.heap.size + 4) (callsIn_wide.2 (bs_lit HHS.out (l := [eachI op k]) hok (by simp) (by rw [Bs.each_len]; simp; omega) (Below.refl _ _)))).mono ?_⟩
    rintro e W5 ⟨rfl, hg⟩
    have HE5 := ahid (HB.out.goes (k' := k + 1) HHR.out hg)
    clear hg hok c0 c1 c2
    have c2 : W5.cell? ⟨w.heap.size + 1 + 1, 0, none⟩ = some (.int .i64 0) := row_cell HE5.out.r2 (j := 0) rfl
    have f2 : W5.frozen? ⟨w.heap.size + 1 + 1, 0, none⟩ = false := row_frozen HE5.out.r2 0
    have HE6 := ahid HE5.out.store
    gi_wp2_with fail
    exact ⟨HE6.out.l, rfl, (HJ.out _ _).2 (HE6.out.put _)⟩
  case behind =>
    rintro e W3 ⟨⟨v, rfl⟩, hJ⟩
    have HE := ahid ((HJ.out _ _).1 hJ)
    clear hJ
    refine range_done hrec HE.out.l ?_
    have HB := ahid (HE.out.put (.loop (rec .exhausted none)))
    generalize W3.putObj (w.heap.size + 4) (.loop (rec .exhausted none)) = W4 at HB ⊢
    have c2 : W4.cell? ⟨w.heap.size + 1 + 1, 0, none⟩ = some (.int .i64 0) := row_cell HB.out.r2 (j := 0) rfl
    gi_wp2
    refine ⟨by simp, .inl ⟨_, _, rfl, run_takeDeferred HB.out.d, ?_⟩⟩
    refine ⟨.int .i64 0, ?_, rfl, HB.out.fin _⟩
    simp [results, Tryz.results186, go_sem]
    try rfl
theorem wstore_any {W w : World} {pa : Nat} {S : Nat → Prop} {s : Bs} (h : BsAt W w pa S s) (hL : s.L.length + 20 < 4294967296) :
    Calls Tryz.prog 119 #[.pointer (some ⟨pa, 0, none⟩)] w fun e w' => e = .returned (.int .i64 0) ∧ BsGo W w pa S (s.each 23 16) w' := by
  have H := ahid (weach_any h (op := 23) (.inl rfl) hL)
  clear h
  go_enter Tryz.func119, Tryz.ntmps119
  go_wp2_with fail
  refine H.out.mono ?_
  rintro e w1 ⟨rfl, hg⟩
  have HG := ahid hg
  clear hg
  go_wp2_with fail
  go_ret
  exact ⟨rfl, HG.out⟩
theorem wload_any {W w : World} {pa : Nat} {S : Nat → Prop} {s : Bs} (h : BsAt W w pa S s) (hL : s.L.length + 20 < 4294967296) :
    Calls Tryz.prog 123 #[.pointer (some ⟨pa, 0, none⟩)] w fun e w' => e = .returned (.int .i64 0) ∧ BsGo W w pa S (s.each 22 16) w' := by
  have H := ahid (weach_any h (op := 22) (.inr rfl) hL)
  clear h
  go_enter Tryz.func123, Tryz.ntmps123
  go_wp2_with fail
  refine H.out.mono ?_
  rintro e w1 ⟨rfl, hg⟩
  have HG := ahid hg
  clear hg
  go_wp2_with fail
  go_ret
  exact ⟨rfl, HG.out⟩
end Go.Proofs.YtajholbcpmjhiaaGreatDoor
