/- 'MachNone', the tied card: for every input the law returns true, and each argument reads afterwards as it read before; the listed variables start as the program's text lays it (the card ties them). No other condition. -/
import Derived.Test.YtacfdddghdnboaaGreatDoorGT
import Derived.Test.YtacfdddghdnboaaGreatDoorGI
import Derived.Test.YtacfdddghdnboaaGreatDoorGU
import Derived.Test.YtacfdddghdnboaaGreatDoorCards
import Derived.Test.YtacfdddghdnboaaGreatDoorTie
import Derived.WalkKit
import Derived.ProofKit
import Derived.OpenShut
import Derived.ShutString
import Derived.ChangeOld
import Derived.Below
import Derived.Deep.DeepHandedRow
import Derived.Lib.LaidTab
import Derived.SevenTiedAt
import Derived.LaidSub
/- The walk of the law MachNone. -/
namespace Go.Proofs.YtacfdddghdnboaaGreatDoor
open Go.RowKit
set_option linter.unusedVariables false
set_option linter.unusedSimpArgs false
theorem field_stop0 (a b : Value) (w : World) : (Instr.field 38 (.agg #[a, b]) 0).run Tryz.prog w = .ok a w := by kernel_rfl
/-- The law's own blocks. -/
structure NoneAt (W : World) (B : Nat) (xs : List Value) : Prop where
  box : ARow W B 59 xs
  mach : W.cell? ⟨B + 1, 1, none⟩ = some (.pointer none)
  list : ARow W (B + 2) 23 [.pointer none, .pointer (some ⟨B + 1, 0, none⟩)]
theorem NoneAt.keepb {a b : World} {B : Nat} {xs : List Value} (h : NoneAt a B xs) (hb : Below a.heap.size a b) : NoneAt b B xs :=
  ⟨h.box.below hb, (hb.cell (World.block_lt_of_cell? _ _ h.mach)).trans h.mach, h.list.below hb⟩
theorem noneAt_new (w : World) (c1 c2 : Array Value) (t2 : TypeId) (h : c2[1]? = some (.pointer none)) :
    NoneAt (((w.alloc (.cells c1 59)).alloc (.cells c2 t2)).alloc (.cells #[.pointer none, .pointer (some ⟨w.heap.size + 1, 0, none⟩)] 23)) w.heap.size c1.toList ∧ Below w.heap.size w (((w.alloc (.cells c1 59)).alloc (.cells c2 t2)).alloc (.cells #[.pointer none, .pointer (some ⟨w.heap.size + 1, 0, none⟩)] 23)) := by
  have s1 : (w.alloc (.cells c1 59)).heap.size = w.heap.size + 1 := by simp
  have s2 : ((w.alloc (.cells c1 59)).alloc (.cells c2 t2)).heap.size = w.heap.size + 2 := by simp
  have r2 := ARow.fresh (w.alloc (.cells c1 59)) t2 c2
  have r3 := ARow.fresh ((w.alloc (.cells c1 59)).alloc (.cells c2 t2)) 23 #[.pointer none, .pointer (some ⟨w.heap.size + 1, 0, none⟩)]
  rw [s1] at r2
  rw [s2] at r3
  refine ⟨⟨(ARow.fresh w 59 c1).below (((Below.refl _ _).alloc (Nat.le_refl _) _).alloc (by simp only [World.size_alloc]; omega) _), ?_, r3⟩, (((Below.refl _ w).alloc (Nat.le_refl _) _).alloc (by simp only [World.size_alloc]; omega) _).alloc (by simp only [World.size_alloc]; omega) _⟩
  exact (r2.below ((Below.refl _ _).alloc (Nat.le_refl _) _)).cell (k := 1) (by simpa using h)
set_option maxRecDepth 100000 in
set_option maxHeartbeats 2000000 in
theorem walk_MachNone (w : World) (ht : Tab w) (hbr : Bru w) (nw size pc : Int) (q : Px) (wim : Int) (vw vr vc : Value) (level : Int) :
    Calls Tryz.prog 6 #[.agg (startC nw size pc q wim vw vr vc).toArray, .int .u8 level] w fun e w' => e = .returned (.bool true) ∧ Below w.heap.size w w' := by
  have HT := mhid (fun w' hb => mhead_any w' (ht.keep hb) (hbr.keep (w' := w') hb))
  have fs0 := field_stop0
  clear ht hbr
  unfold startC
  go_enter Tryz.func6, Tryz.ntmps6
  go_wp2_with fail
  generalize hW0 : World.alloc (World.alloc (World.alloc w _) _) _ = W0
  have HF := mhid (show NoneAt W0 w.heap.size (startC nw size pc q wim vw vr vc) ∧ Below w.heap.size w W0 from by rw [← hW0]; exact noneAt_new w _ _ _ rfl)
  clear hW0
  obtain ⟨B, hB⟩ : ∃ B, B = w.heap.size := ⟨_, rfl⟩
  rw [← hB, show B + 1 + 1 = B + 2 from rfl]
  have HF := mhid (show NoneAt W0 B (startC nw size pc q wim vw vr vc) ∧ Below w.heap.size w W0 from by rw [hB]; exact HF.out)
  have HB := mhid hB
  clear hB
  go_loopw [7] (fun i wr => ∃ k : Nat, i = .int .i64 k ∧ k ≤ 2 ∧ NoneAt wr B (startC nw size pc q wim vw vr vc) ∧ Below w.heap.size w wr) (fun i _ => 2 - (intOf i).toNat)
  case atStart => exact ⟨0, rfl, by omega, HF.out.1, HF.out.2⟩
  case round =>
    obtain ⟨k, rfl, hk, hna, hbw⟩ := hrel
    have HG := mhid (And.intro hna hbw)
    clear hna hbw HF
    obtain ⟨w0, hw0⟩ : ∃ W, W = wr := ⟨_, rfl⟩
    rw [← hw0]
    rw [← hw0] at HG
    clear hw0
    by_cases hlt : k < 2
    · obtain ⟨p, hp, hn⟩ : ∃ p, [Value.pointer none, .pointer (some ⟨B + 1, 0, none⟩)][k]? = some (.pointer p) ∧ MNon w0 p := by
        rcases k with _ | _ | k
        · exact ⟨none, rfl, .inl rfl⟩
        · exact ⟨_, rfl, .inr ⟨B + 1, rfl, HG.out.1.mach⟩⟩
        · omega
      have HN := mhid hn
      have lk : w0.cell? ⟨B + 2, k, none⟩ = some (.pointer p) := HG.out.1.list.cell hp
      clear hn hp
      go_wp2_with fail
      refine (mno_T w0 _ HN.out _).mono ?_
      rintro e w' ⟨rfl, rfl⟩
      go_wp2_with fail
      refine (mno_Step w0 _ HN.out _).mono ?_
      rintro e w1 ⟨rfl, hb⟩
      have HN := mhid (HN.out.keep hb)
      have HG := mhid (And.intro (HG.out.1.keepb hb) (HG.out.2.trans (hb.mono HG.out.2.size)))
      clear hb
      clear lk
      have x2 := HG.out.1.box.cell (k := 2) rfl
      have x3 := HG.out.1.box.cell (k := 3) rfl
      have x4 := HG.out.1.box.cell (k := 4) rfl
      have x5 := HG.out.1.box.cell (k := 5) rfl
      have x6 := HG.out.1.box.cell (k := 6) rfl
      have x7 := HG.out.1.box.cell (k := 7) rfl
      go_wp2_with fail
      refine (mno_Stop w1 _ HN.out).mono ?_
      rintro e w2 ⟨rfl, hb⟩
      have HN := mhid (HN.out.keep hb)
      have HG := mhid (And.intro (HG.out.1.keepb hb) (HG.out.2.trans (hb.mono HG.out.2.size)))
      clear hb
      clear x2 x3 x4 x5 x6 x7
      have x2 := HG.out.1.box.cell (k := 2) rfl
      have x3 := HG.out.1.box.cell (k := 3) rfl
      have x4 := HG.out.1.box.cell (k := 4) rfl
      have x5 := HG.out.1.box.cell (k := 5) rfl
      have x6 := HG.out.1.box.cell (k := 6) rfl
      have x7 := HG.out.1.box.cell (k := 7) rfl
      go_wp2_with fail
      refine (mno_Load w2 _ HN.out _ _ _).mono ?_
      rintro e w' ⟨rfl, rfl⟩
      go_wp2_with fail
      refine (mno_Choose w2 _ HN.out _ _ _).mono ?_
      rintro e w' ⟨rfl, rfl⟩
      go_wp2_with fail
      refine (mno_SetPC w2 _ HN.out _).mono ?_
      rintro e w' ⟨rfl, rfl⟩
      go_wp2_with fail
      refine (mno_SetPsr w2 _ HN.out q).mono ?_
      rintro e w3 ⟨rfl, hb⟩
      have HN := mhid (HN.out.keep hb)
      have HG := mhid (And.intro (HG.out.1.keepb hb) (HG.out.2.trans (hb.mono HG.out.2.size)))
      clear hb
      clear x2 x3 x4 x5 x6 x7
      have x2 := HG.out.1.box.cell (k := 2) rfl
      have x3 := HG.out.1.box.cell (k := 3) rfl
      have x4 := HG.out.1.box.cell (k := 4) rfl
      have x5 := HG.out.1.box.cell (k := 5) rfl
      have x6 := HG.out.1.box.cell (k := 6) rfl
      have x7 := HG.out.1.box.cell (k := 7) rfl
      go_wp2_with fail
      refine (mno_SetWim w3 _ HN.out _).mono ?_
      rintro e w' ⟨rfl, rfl⟩
      go_wp2_with fail
      refine (mno_PC w3 _ HN.out).mono ?_
      rintro e w' ⟨rfl, rfl⟩
      go_wp2_with fail
      refine (mno_Wim w3 _ HN.out).mono ?_
      rintro e w' ⟨rfl, rfl⟩
      go_wp2_with fail
      refine (mno_Psr w3 _ HN.out).mono ?_
      rintro e w4 ⟨rfl, hb⟩
      have HN := mhid (HN.out.keep hb)
      have HG := mhid (And.intro (HG.out.1.keepb hb) (HG.out.2.trans (hb.mono HG.out.2.size)))
      clear hb
      clear x2 x3 x4 x5 x6 x7
      have x2 := HG.out.1.box.cell (k := 2) rfl
      have x3 := HG.out.1.box.cell (k := 3) rfl
      have x4 := HG.out.1.box.cell (k := 4) rfl
      have x5 := HG.out.1.box.cell (k := 5) rfl
      have x6 := HG.out.1.box.cell (k := 6) rfl
      have x7 := HG.out.1.box.cell (k := 7) rfl
      go_wp2_with fail
      refine (mno_Out w4 _ HN.out).mono ?_
      rintro e w' ⟨rfl, rfl⟩
      go_wp2_with fail
      refine (mno_File w4 _ HN.out).mono ?_
      rintro e w' ⟨rfl, rfl⟩
      go_wp2_with fail
      refine (mno_Mem w4 _ HN.out).mono ?_
      rintro e w' ⟨rfl, rfl⟩
      go_wp2_with fail
      refine (mno_Copy w4 _ HN.out).mono ?_
      rintro e w' ⟨rfl, rfl⟩
      go_wp2_with fail
      exact ⟨⟨k + 1, rfl, by omega, HG.out.1, HG.out.2⟩, by simp only [intOf]; omega⟩
    · have : k = 2 := by omega
      subst this
      go_wp2_with fail
      refine (HT.out _ HG.out.2).mono ?_
      rintro e w1 ⟨rfl, hb⟩
      go_wp2_with fail
      go_ret
      exact ⟨rfl, HG.out.2.trans (hb.mono HG.out.2.size)⟩
theorem walk_MachNoneV (w : World) (x : StartX) (v : Value) (h : StartIn w v x) (level : Int) (ht : Tab w) (hbr : Bru w) :
    Calls Tryz.prog 6 #[v, .int .u8 level] w fun e w' => e = .returned (.bool true) ∧ Below w.heap.size w w' := by
  obtain ⟨vw, vr, vc, rfl, _⟩ := h.rows
  exact walk_MachNone w ht hbr _ _ _ _ _ _ _ _ _
end Go.Proofs.YtacfdddghdnboaaGreatDoor
namespace Go.Proofs.YtacfdddghdnboaaGreatDoor.machNoneP
open Go.ChangeShapes Go.WideShapes Go.ChangeAt Go.RowKit
set_option linter.unusedVariables false
theorem own : ownKnob Tryz.prog.godebug = none := by kernel_rfl
theorem laidOut : laidOutB Tryz.prog = true := by kernel_rfl
theorem gTab : Tryz.prog.globalNamed "muntin/inst.fields" = some 1 := by kernel_rfl
theorem gTabType : (Tryz.prog.globals[1]?).map (·.type) = some 224 := by kernel_rfl
theorem cellsTab : Tryz.prog.cellsOf 224 = 38 := by kernel_rfl
theorem cellsU8 : Tryz.prog.cellsOf 5 = 1 := by kernel_rfl
theorem gBru : Tryz.prog.globalNamed "math/bits.deBruijn32tab" = some 0 := by kernel_rfl
theorem gBruType : (Tryz.prog.globals[0]?).map (·.type) = some 217 := by kernel_rfl
theorem cellsBru : Tryz.prog.cellsOf 217 = 32 := by kernel_rfl
theorem keepF : (Rows.machNoneRow.laid.filter fun e => e.1 == "muntin/inst.fields") = [("muntin/inst.fields", Lib.tabData .u8 [128, 7, 7, 7, 7, 7, 7, 7, 7, 7, 7, 7, 7, 7, 7, 25, 6, 25, 24, 7, 7, 7, 7, 7, 7, 7, 1, 6, 1, 6, 9, 10, 0, 8, 1, 2, 2, 8])] := by kernel_rfl
theorem keepB : (Rows.machNoneRow.laid.filter fun e => e.1 == "math/bits.deBruijn32tab") = [("math/bits.deBruijn32tab", Lib.tabData .u8 [0, 1, 28, 2, 29, 14, 24, 3, 30, 22, 20, 15, 25, 17, 4, 8, 31, 27, 13, 23, 21, 19, 16, 7, 26, 12, 18, 6, 11, 5, 10, 9])] := by kernel_rfl
/-- What the row's list gives: the tables' cells hold their numbers. -/
theorem table {W : World} (h : laidMetH Tryz.prog Rows.machNoneRow.laid W) : Lib.TabIs Tryz.prog W "muntin/inst.fields" .u8 [128, 7, 7, 7, 7, 7, 7, 7, 7, 7, 7, 7, 7, 7, 7, 25, 6, 25, 24, 7, 7, 7, 7, 7, 7, 7, 1, 6, 1, 6, 9, 10, 0, 8, 1, 2, 2, 8] := by
  have h1 := h.filter (fun e => e.1 == "muntin/inst.fields")
  rw [keepF] at h1
  exact Lib.tabIs_of_head (rest := []) gTab gTabType Tryz.underlying224 Tryz.underlying5 cellsU8 cellsTab h1
theorem tabW {W : World} (h : laidMetH Tryz.prog Rows.machNoneRow.laid W) : Tab W :=
  tab_of (fun i hi => (table h).cell gTab i hi)
theorem tableB {W : World} (h : laidMetH Tryz.prog Rows.machNoneRow.laid W) : Lib.TabIs Tryz.prog W "math/bits.deBruijn32tab" .u8 [0, 1, 28, 2, 29, 14, 24, 3, 30, 22, 20, 15, 25, 17, 4, 8, 31, 27, 13, 23, 21, 19, 16, 7, 26, 12, 18, 6, 11, 5, 10, 9] := by
  have h1 := h.filter (fun e => e.1 == "math/bits.deBruijn32tab")
  rw [keepB] at h1
  exact Lib.tabIs_of_head (rest := []) gBru gBruType Tryz.underlying217 Tryz.underlying5 cellsU8 cellsBru h1
theorem bruW {W : World} (h : laidMetH Tryz.prog Rows.machNoneRow.laid W) : Bru W :=
  bru_of (fun i hi => (tableB h).cell gBru i hi)
set_option maxRecDepth 100000 in
theorem contract (H : Type) (enc : TypeId × Value → H) (W : World) (base : Nat) (args : Array Value) (ds gs : List (DataW H)) (before : List MemPlace)
    (hval0 : ∀ (j : Nat) t v, Tryz.f6.params[j]? = some t → args[j]? = some v → Value.okWide Tryz.prog W .any base t v)
    (hW : DataW.Whole enc Tryz.prog Tryz.f6.params.toList Rows.machNoneSpec.vars false W args.toList ds gs before) (hL : laidMetH Tryz.prog Rows.machNoneRow.laid W) :
    Calls Tryz.prog 6 args W fun e W' => ∃ v, e = .returned v ∧ Rows.machNoneSpec.post enc Tryz.prog Tryz.f6 false true false false W args v W' := by
  have hval : ∀ (j : Nat) t v, Tryz.f6.params[j]? = some t → args[j]? = some v → Value.okWide Tryz.prog W .any base t v := hval0
  have ht := tabW hL
  have hbr := bruW hL
  have hW' := hW
  obtain ⟨p, q, hA0, hV, rfl, hfz, hnd⟩ := hW
  have hA : DataW.TrodAll enc Tryz.prog W 0 (fun _ => true) true Tryz.f6.params.toList args.toList ds p := hA0
  rw [Tryz.params6] at hA hval
  obtain ⟨v0, vs0, d0, ds0, p0, q0, hargs, rfl, rfl, h0, r0⟩ := trodAll_cons hA
  obtain ⟨v1, vs1, d1, ds1, p1, q1, rfl, rfl, rfl, h1, r1⟩ := trodAll_cons r0
  obtain ⟨rfl, rfl, rfl⟩ := trodAll_nil r1
  obtain rfl : args = #[v0, v1] := by cases args; simp_all
  obtain ⟨rfl, rfl⟩ := trodVars_none hV
  have k0 := h0
  have lt0 : ∀ x ∈ p0, x.block < W.heap.size := by obtain ⟨m, hm⟩ := k0; exact DataW.trod_lt m _ _ _ hm
  obtain ⟨x0, hx0⟩ := open_start (hval 0 59 v0 rfl rfl) h0
  obtain ⟨a1, rfl, rfl, rfl, w1⟩ := open_int Tryz.underlying5 (hval 1 5 v1 rfl rfl) h1
  have bd1 := bounds_u8 w1
  clear hA0 hval0
  refine (walk_MachNoneV W x0 v0 hx0 a1 ht hbr).mono fun e W' ⟨he, bel⟩ => ?_
  subst he
  exact ⟨_, rfl, _, _, _, [], _, [], hW', trodAll_mk1 (shut_bool Tryz.underlying4 _), (trodAll_cons_mk (Below.trod laidOut (by kernel_rfl) (of_decide_eq_true (by kernel_rfl)) k0 bel lt0) (trodAll_cons_mk (shut_int Tryz.underlying5 w1) trodAll_mk0)), rfl, bel.frame _, fun h => by cases h⟩
def lay0 : Obj → Obj
  | .cells _ t frozen => .cells #[.int .u8 0, .int .u8 1, .int .u8 28, .int .u8 2, .int .u8 29, .int .u8 14, .int .u8 24, .int .u8 3, .int .u8 30, .int .u8 22, .int .u8 20, .int .u8 15, .int .u8 25, .int .u8 17, .int .u8 4, .int .u8 8, .int .u8 31, .int .u8 27, .int .u8 13, .int .u8 23, .int .u8 21, .int .u8 19, .int .u8 16, .int .u8 7, .int .u8 26, .int .u8 12, .int .u8 18, .int .u8 6, .int .u8 11, .int .u8 5, .int .u8 10, .int .u8 9] t frozen
  | o => o
def lay1 : Obj → Obj
  | .cells _ t frozen => .cells #[.int .u8 128, .int .u8 7, .int .u8 7, .int .u8 7, .int .u8 7, .int .u8 7, .int .u8 7, .int .u8 7, .int .u8 7, .int .u8 7, .int .u8 7, .int .u8 7, .int .u8 7, .int .u8 7, .int .u8 7, .int .u8 25, .int .u8 6, .int .u8 25, .int .u8 24, .int .u8 7, .int .u8 7, .int .u8 7, .int .u8 7, .int .u8 7, .int .u8 7, .int .u8 7, .int .u8 1, .int .u8 6, .int .u8 1, .int .u8 6, .int .u8 9, .int .u8 10, .int .u8 0, .int .u8 8, .int .u8 1, .int .u8 2, .int .u8 2, .int .u8 8] t frozen
  | o => o
/-- A world for the witness: the settled one, the two tables holding what their initialisers lay. -/
noncomputable def laidWorld (os : Os) : World :=
  { World.holding Tryz.prog os ⟨#[], #[], []⟩ with heap := (((World.holding Tryz.prog os ⟨#[], #[], []⟩).heap.modify 0 lay0).modify 1 lay1) }
theorem laid_met (os : Os) : laidMet Tryz.prog Rows.machNoneRow.laid ((laidWorld os).forCall (fun _ _ => 0) ⟨#[], #[.agg #[.int .i64 0, .int .i64 0, .int .u32 0, .int .u8 0, .int .u8 0, .int .u8 0, .int .u8 0, .int .u32 0, .slice none 0 0, .slice none 0 0, .slice none 0 0], .int .u8 0], []⟩).memory :=
  laidMet_of_run' 8 (by kernel_rfl) (by kernel_rfl)
theorem reads (os : Os) {H : Type} (enc : TypeId × Value → H) : ∃ places, DataW.whole enc Tryz.prog ((laidWorld os).forCall (fun _ _ => 0) ⟨#[], #[.agg #[.int .i64 0, .int .i64 0, .int .u32 0, .int .u8 0, .int .u8 0, .int .u8 0, .int .u8 0, .int .u32 0, .slice none 0 0, .slice none 0 0, .slice none 0 0], .int .u8 0], []⟩).memory Tryz.f6.params.toList Rows.machNoneSpec.vars false (#[.agg #[.int .i64 0, .int .i64 0, .int .u32 0, .int .u8 0, .int .u8 0, .int .u8 0, .int .u8 0, .int .u32 0, .slice none 0 0, .slice none 0 0, .slice none 0 0], .int .u8 0] : Array Value).toList 8 = some ([.agg [.lit (.int .i64 0), .lit (.int .i64 0), .lit (.int .u32 0), .agg [.lit (.int .u8 0), .lit (.int .u8 0), .lit (.int .u8 0), .lit (.int .u8 0)], .lit (.int .u32 0), .nil, .nil, .nil], .lit (.int .u8 0)], [], places) :=
  ⟨[], by kernel_rfl⟩
set_option maxRecDepth 100000 in
theorem lifted (os : Os) (started : os.Started) (H : Type) (enc : TypeId × Value → H) (F : Stop.Interp) :
    ReturnsInHanded {} Tryz.checked os 6 .any ((OpenSpec.ofChange Rows.machNoneSpec).preRow enc Tryz.prog Tryz.f6 Rows.machNoneRow.domain false Rows.machNoneRow.laid) (((OpenSpec.ofChange Rows.machNoneSpec).at F).post enc Tryz.prog Tryz.f6 false true false false) := by
  obtain ⟨places, hx⟩ := reads os enc
  refine returnsInHanded_of_row (C := Tryz.checked) (s := OpenSpec.ofChange Rows.machNoneSpec) own started (by kernel_rfl) Tryz.func6
    (witness_row_at (enc := enc) (C := Tryz.checked) false (laidWorld os) #[.agg #[.int .i64 0, .int .i64 0, .int .u32 0, .int .u8 0, .int .u8 0, .int .u8 0, .int .u8 0, .int .u32 0, .slice none 0 0, .slice none 0 0, .slice none 0 0], .int .u8 0] rfl (by kernel_rfl) (by kernel_rfl) (by kernel_rfl)
      (OpenSpec.preRow_of_cond 8 hx (by kernel_rfl) (fun k hk => by cases hk) (by kernel_rfl) (laid_met os))) ?_
  intro W base args ds gs before hval hW _ _ _ hL _ _
  exact contract H enc W base args ds gs before hval hW hL
theorem said : Rows.MachNoneSaid :=
  OpenClaim.holds_of_cond 6 Tryz.f6 rfl rfl rfl rfl rfl rfl rfl ⟨rfl, rfl, rfl, rfl, rfl⟩ rfl rfl rfl rfl rfl (by kernel_rfl) Tryz.func6 (by kernel_rfl)
    (of_decide_eq_true (by kernel_rfl)) (by unfold Func.isWrapper; first | (rw [if_pos (by decide +kernel)]; kernel_rfl) | (rw [if_neg (by decide +kernel)]; exact ⟨rfl, rfl⟩))
    (fun os started H enc _ F => by rw [OpenClaim.pre_eq_preRow]; exact lifted os started H enc F)
theorem plain (f : FuncId) (fn : Func) (hf : Tryz.pinned.checked.prog.funcNamed "muntin/muntinlaw06.MachNone" = some f) (hfn : Tryz.pinned.checked.prog.funcs[f]? = some fn) :
    false = Tryz.pinned.checked.prog.looks [] ∧ ∀ (j : Nat) t, fn.params[j]? = some t → Tryz.pinned.checked.prog.wantsStandIn t = false := by
  obtain rfl : f = 6 := Option.some.inj ((show Tryz.prog.funcNamed "muntin/muntinlaw06.MachNone" = some 6 by kernel_rfl).symm.trans hf) |>.symm
  obtain rfl : fn = Tryz.f6 := (Option.some.inj (Tryz.func6.symm.trans hfn)).symm
  refine ⟨by kernel_rfl, fun j t ht => ?_⟩
  have hall : (Tryz.f6.params.toList.all fun u => !Tryz.prog.wantsStandIn u) = true := by kernel_rfl
  have hm : t ∈ Tryz.f6.params.toList := by simpa using Array.mem_of_getElem? ht
  exact (show Tryz.prog.wantsStandIn t = false by simpa using List.all_eq_true.1 hall t hm)
/-- The statement. -/
theorem proved : Rows.MachNoneCardSaid :=
  Claim7.holds_tied_plain_at .later [] _ _ _ _ said (fun _ h => by cases h) (by kernel_rfl) (fun _ h => by cases h) machNone_row_tie rfl ⟨rfl, rfl⟩ (by kernel_rfl) rfl plain (by kernel_rfl)
end Go.Proofs.YtacfdddghdnboaaGreatDoor.machNoneP
