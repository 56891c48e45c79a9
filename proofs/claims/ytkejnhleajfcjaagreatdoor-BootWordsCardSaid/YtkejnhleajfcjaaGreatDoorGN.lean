/- Several texts in one: BootA, BootAll, BootFine. -/
import Derived.Test.YtkejnhleajfcjaaGreatDoorGL
import Derived.Test.YtkejnhleajfcjaaGreatDoorGM
import Derived.Test.YtkejnhleajfcjaaGreatDoorGD
/- Walks of the package boot: handler, ld, vectors. -/
namespace Go.Proofs.YtkejnhleajfcjaaGreatDoor
open Go.RowKit
set_option linter.unusedVariables false
set_option linter.unusedSimpArgs false
/-- The mark of a type's handler; nothing, if it has none. -/
def handNm (k : Nat) : List UInt8 := if k = 1 then nmOver else if k = 2 then nmUnder else if k = 3 then nmYield else if k = 4 then nmEnd else if 17 ≤ k ∧ k ≤ 31 then nmTick (k - 16) else []
def rettI : Ix := ⟨32, 0, 0, 0, false, 0⟩
def Bs.vecs (s : Bs) : Nat → Bs
  | 0 => s
  | k + 1 => (if handNm k = [] then (s.vecs k).put [rettI] else (s.vecs k).jump 0 (handNm k)).put [rettI, rettI, rettI]
theorem vecs_M (s : Bs) : ∀ k, (s.vecs k).M = s.M
  | 0 => rfl
  | k + 1 => by
    have ih := vecs_M s k
    show ((if handNm k = [] then (s.vecs k).put [rettI] else (s.vecs k).jump 0 (handNm k)).put [rettI, rettI, rettI]).M = _
    split <;> exact ih
theorem vecs_len (s : Bs) : ∀ k, (s.vecs k).L.length = s.L.length + 4 * k
  | 0 => rfl
  | k + 1 => by
    have ih := vecs_len s k
    show ((if handNm k = [] then (s.vecs k).put [rettI] else (s.vecs k).jump 0 (handNm k)).put [rettI, rettI, rettI]).L.length = _
    rw [Bs.put_len]
    split
    · rw [Bs.put_len, ih]; simp; omega
    · rw [len_jump, ih]; simp; omega
theorem rett_ok : allI [rettI] ∧ allI [rettI, rettI, rettI] := by decide
theorem hand_len : ∀ k : Nat, k < 32 → (handNm k).length ≤ 100 := by decide
theorem bhandler_any (k : Nat) (hk : k < 32) (w : World) : Calls Tryz.prog 298 #[.int .i64 k] w fun e w' => e = .returned (.string ⟨(handNm k).toArray⟩) ∧ w = w' := by
  by_cases h1 : k = 1
  · subst h1
    go_enter Tryz.func298, Tryz.ntmps298
    go_wp2_with fail
    go_ret
    exact ⟨rfl, rfl⟩
  by_cases h2 : k = 2
  · subst h2
    go_enter Tryz.func298, Tryz.ntmps298
    go_wp2_with fail
    go_ret
    exact ⟨rfl, rfl⟩
  by_cases h3 : k = 3
  · subst h3
    go_enter Tryz.func298, Tryz.ntmps298
    go_wp2_with fail
    go_ret
    exact ⟨rfl, rfl⟩
  by_cases h4 : k = 4
  · subst h4
    go_enter Tryz.func298, Tryz.ntmps298
    go_wp2_with fail
    go_ret
    exact ⟨rfl, rfl⟩
  have i1 : ¬ (k : Int) = 1 := by omega
  have i2 : ¬ (k : Int) = 2 := by omega
  have i3 : ¬ (k : Int) = 3 := by omega
  have i4 : ¬ (k : Int) = 4 := by omega
  have e1 : IntKind.i64.wrap ((k : Int) - 16) = (k : Int) - 16 := IntWalk.i64_in _ (by omega)
  by_cases h5 : 17 ≤ k ∧ k ≤ 31
  · have HT := ahid (tname_any (k - 16) (by omega) (by omega) w)
    have e2 : ((k - 16 : Nat) : Int) = (k : Int) - 16 := by omega
    have e3 : handNm k = (tickNm (k - 16)).data.toList := by
      unfold handNm; rw [if_neg h1, if_neg h2, if_neg h3, if_neg h4, if_pos h5]; rfl
    have e4 : (⟨(handNm k).toArray⟩ : ByteArray) = tickNm (k - 16) := by rw [e3]
    rw [e4]
    rw [e2] at HT
    clear e2 e3 e4
    generalize tickNm (k - 16) = nm at *
    go_enter Tryz.func298, Tryz.ntmps298
    go_wp2_with fail
    refine HT.out.mono ?_
    rintro e w' ⟨rfl, rfl⟩
    go_wp2_with fail
    go_ret
    exact ⟨rfl, rfl⟩
  · have HT := ahid (name_no ((k : Int) - 16) (by omega) w)
    have e3 : handNm k = [] := by
      unfold handNm; rw [if_neg h1, if_neg h2, if_neg h3, if_neg h4, if_neg h5]
    rw [e3]
    go_enter Tryz.func298, Tryz.ntmps298
    go_wp2_with fail
    refine HT.out.mono ?_
    rintro e w' ⟨rfl, rfl⟩
    go_wp2_with fail
    go_ret
    exact ⟨rfl, rfl⟩
theorem bld_any {rd n : Int} (w : World) :
    Calls Tryz.prog 265 #[.int .u8 rd, .int .i32 n] w fun e w' => e = .returned (ldI rd 0 n).agg ∧ Below w.heap.size w w' := by
  go_enter Tryz.func265, Tryz.ntmps265
  go_wp2_with fail
  refine bodyPost_ret (v := (ldI rd 0 n).agg) (by simp [results, Tryz.results265, go_sem, ldI]; try rfl) rfl ?_
  exact ⟨rfl, (Below.refl _ w).alloc (Nat.le_refl _) _⟩
theorem hand_ne {k : Nat} (h : ¬ handNm k = []) : ¬ (⟨(handNm k).toArray⟩ : ByteArray) = ⟨#[]⟩ := fun he => h (by
  have := congrArg (fun b : ByteArray => b.data.toList) he
  simpa using this)
set_option maxRecDepth 100000 in
set_option maxHeartbeats 4000000 in
theorem bvectors_any {W w : World} {pa : Nat} {S : Nat → Prop} {s : Bs} (h : BsAt W w pa S s) (hL : s.L.length + 200 < 4294967296) :
    Calls Tryz.prog 264 #[.pointer (some ⟨pa, 0, none⟩)] w fun e w' => e = .returned (.tuple #[]) ∧ BsGo W w pa S (s.vecs 32) w' := by
  obtain ⟨w0, hw0⟩ : ∃ x, x = w.alloc (.cells #[.int .u8 32, .int .u8 0, .int .u8 0, .int .u8 0, .bool false, .int .i32 0] 108) := ⟨_, rfl⟩
  have hb0 : Below w.heap.size w w0 := by rw [hw0]; exact (Below.refl _ w).alloc (Nat.le_refl _) _
  have hr0 : w0.heap[w.heap.size]? = some (.cells #[.int .u8 32, .int .u8 0, .int .u8 0, .int .u8 0, .bool false, .int .i32 0] 108 (0, 0)) := by rw [hw0]; show (w.heap.push _)[w.heap.size]? = _; simp
  have HNS := ahid (show ¬ S w.heap.size from fun hs => by have := (h.lst.lo _ hs).2; omega)
  have HR := ahid hr0
  have H := ahid (h.keepb hb0)
  have HB := ahid hb0
  have HLN := ahid (vecs_len s)
  clear h hr0 hb0
  go_enter Tryz.func264, Tryz.ntmps264
  go_wp2_with fail
  rw [← hw0]
  clear hw0
  go_loopw [6] (fun i wr => ∃ k : Nat, k ≤ 32 ∧ i = .int .i64 k ∧ Hid (BsGo W w0 pa S (s.vecs k) wr)) (fun i _ => 32 - (intOf i).toNat)
  case atStart => exact ⟨0, by omega, rfl, ahid (BsGo.same H.out)⟩
  case round =>
    obtain ⟨k, hk, rfl, hg⟩ := hrel
    have HG := ahid hg.out
    clear hg
    by_cases hlt : k < 32
    · have e1 : IntKind.i64.wrap ((k : Int) + 1) = ((k + 1 : Nat) : Int) := by rw [IntWalk.i64_in _ (by omega)]; omega
      have h15 : (k : Int) < 32 := by omega
      obtain ⟨S1, h1, o1, r1⟩ := HG.out
      have hlen := HLN.out k
      have hlen1 := hand_len k hlt
      have hR1 : wr.heap[w.heap.size]? = some (.cells #[.int .u8 32, .int .u8 0, .int .u8 0, .int .u8 0, .bool false, .int .i32 0] 108 (0, 0)) := (o1.block _ (Array.getElem?_eq_some_iff.1 HR.out).1 HNS.out).trans HR.out
      have HNS1 := ahid (show ¬ S1 w.heap.size from fun hs => by
        rcases r1 _ hs with h | h
        · exact HNS.out h
        · have := (Array.getElem?_eq_some_iff.1 HR.out).1; omega)
      have c0 := row_cell hR1 (j := 0) rfl
      have c1 := row_cell hR1 (j := 1) rfl
      have c2 := row_cell hR1 (j := 2) rfl
      have c3 := row_cell hR1 (j := 3) rfl
      have c4 := row_cell hR1 (j := 4) rfl
      have c5 := row_cell hR1 (j := 5) rfl
      have H1 := ahid h1
      have HR1 := ahid hR1
      clear h1 hR1
      by_cases hn : handNm k = []
      · go_wp2_with fail
        refine (bhandler_any k hlt wr).mono ?_
        rintro e w1 ⟨rfl, rfl⟩
        rw [hn]
        go_wp2_with fail
        refine (bs_lit H1.out (l := [rettI]) rett_ok.1 (by decide) (by simp; omega) (Below.refl _ _)).mono ?_
        rintro e w2 ⟨rfl, hg⟩
        obtain ⟨S2, h2, o2, r2⟩ := hg
        have hR2 : w2.heap[w.heap.size]? = some (.cells #[.int .u8 32, .int .u8 0, .int .u8 0, .int .u8 0, .bool false, .int .i32 0] 108 (0, 0)) := (o2.block _ (Array.getElem?_eq_some_iff.1 HR1.out).1 HNS1.out).trans HR1.out
        have d0 := row_cell hR2 (j := 0) rfl
        have d1 := row_cell hR2 (j := 1) rfl
        have d2 := row_cell hR2 (j := 2) rfl
        have d3 := row_cell hR2 (j := 3) rfl
        have d4 := row_cell hR2 (j := 4) rfl
        have d5 := row_cell hR2 (j := 5) rfl
        have hlen2 : ((s.vecs k).put [rettI]).L.length = (s.vecs k).L.length + 1 := Bs.put_len _ _
        have H2 := ahid h2
        clear h2 hR2 c0 c1 c2 c3 c4 c5
        go_wp2_with fail
        refine (bs_lit H2.out (l := [rettI, rettI, rettI]) rett_ok.2 (by decide) (by simp; omega) (Below.refl _ _)).mono ?_
        rintro e w3 ⟨rfl, hg⟩
        have HN := ahid (show BsGo W w0 pa S (s.vecs (k + 1)) w3 from by
          have hs : s.vecs (k + 1) = ((s.vecs k).put [rettI]).put [rettI, rettI, rettI] := by
            show (if handNm k = [] then (s.vecs k).put [rettI] else (s.vecs k).jump 0 (handNm k)).put [rettI, rettI, rettI] = _
            rw [if_pos hn]
          rw [hs]
          exact BsGo.then o1 r1 (BsGo.then o2 r2 hg))
        clear hg d0 d1 d2 d3 d4 d5
        go_wp2_with fail
        exact ⟨⟨k + 1, by omega, by go_num, ahid HN.out⟩, by simp [intOf]; omega⟩
      · have hn1 := hand_ne hn
        go_wp2_with fail
        refine (bhandler_any k hlt wr).mono ?_
        rintro e w1 ⟨rfl, rfl⟩
        have hem : (handNm k).isEmpty = false := by cases hh : handNm k with
          | nil => exact absurd hh hn
          | cons a l => rfl
        go_wp2_with fail
        refine (bs_jump H1.out (c := 0) (by omega) (by omega) hlen1 (by omega)).mono ?_
        rintro e w2 ⟨rfl, hg⟩
        obtain ⟨S2, h2, o2, r2⟩ := hg
        have hR2 : w2.heap[w.heap.size]? = some (.cells #[.int .u8 32, .int .u8 0, .int .u8 0, .int .u8 0, .bool false, .int .i32 0] 108 (0, 0)) := (o2.block _ (Array.getElem?_eq_some_iff.1 HR1.out).1 HNS1.out).trans HR1.out
        have d0 := row_cell hR2 (j := 0) rfl
        have d1 := row_cell hR2 (j := 1) rfl
        have d2 := row_cell hR2 (j := 2) rfl
        have d3 := row_cell hR2 (j := 3) rfl
        have d4 := row_cell hR2 (j := 4) rfl
        have d5 := row_cell hR2 (j := 5) rfl
        have hlen2 : ((s.vecs k).jump 0 (handNm k)).L.length = (s.vecs k).L.length + 1 := len_jump _ _ _
        have H2 := ahid h2
        clear h2 hR2 c0 c1 c2 c3 c4 c5
        go_wp2_with fail
        refine (bs_lit H2.out (l := [rettI, rettI, rettI]) rett_ok.2 (by decide) (by simp; omega) (Below.refl _ _)).mono ?_
        rintro e w3 ⟨rfl, hg⟩
        have HN := ahid (show BsGo W w0 pa S (s.vecs (k + 1)) w3 from by
          have hs : s.vecs (k + 1) = ((s.vecs k).jump 0 (handNm k)).put [rettI, rettI, rettI] := by
            show (if handNm k = [] then (s.vecs k).put [rettI] else (s.vecs k).jump 0 (handNm k)).put [rettI, rettI, rettI] = _
            rw [if_neg hn]
          rw [hs]
          exact BsGo.then o1 r1 (BsGo.then o2 r2 hg))
        clear hg d0 d1 d2 d3 d4 d5
        go_wp2_with fail
        exact ⟨⟨k + 1, by omega, by go_num, ahid HN.out⟩, by simp [intOf]; omega⟩
    · obtain rfl : k = 32 := by omega
      go_wp2_with fail
      go_end0
      exact ⟨rfl, HG.out.behind HB.out⟩
end Go.Proofs.YtkejnhleajfcjaaGreatDoor
/- The whole runtime: its instructions, its marks, its words. No walk. -/
namespace Go.Proofs.YtkejnhleajfcjaaGreatDoor
open Go.RowKit
set_option linter.unusedVariables false
set_option linter.unusedSimpArgs false
def nmStart : List UInt8 := [115, 116, 97, 114, 116]
def startI : List Ix := [ldI 1 0 72, stI 1 0 136, ldI 14 0 68, ldI 1 0 64, ⟨19, 0, 1, 0, true, 0⟩]
theorem start_ok : allI startI := by decide
def boot0 : Bs := ⟨[], []⟩
def Bs.boot1 (nw : Nat) : Bs := ((((boot0.vecs 32).over nw).under nw).ticks 15).swap nw
def Bs.boot (nw : Nat) : Bs := ((Bs.boot1 nw).mark nmStart).put startI
def bootW (nw : Nat) : List Int := wordsL (Bs.boot nw).M 0 (Bs.boot nw).L
def bootN (nw : Nat) : Int := atN (Bs.boot nw).M ⟨nmStart.toArray⟩
/-- Sizes of the steps. -/
theorem over_len (s : Bs) (nw : Nat) : (s.over nw).L.length ≤ s.L.length + 40 ∧ names (s.over nw).M = names s.M ++ [nmOver, nmOverIn] := by
  unfold Bs.over
  obtain ⟨h1, h2⟩ := Bs.turned_len (s.mark nmOver) nw 9 8
  constructor
  · simp only [Bs.put_len, len_mark, len_jump, Bs.each_len, windowI, endI, List.length_cons, List.length_nil] at h1 ⊢; omega
  · simp [names_mark, names_put, names_jump, names_each, h2]
theorem under_len (s : Bs) (nw : Nat) : (s.under nw).L.length ≤ s.L.length + 40 ∧ names (s.under nw).M = names s.M ++ [nmUnder, nmUnderIn] := by
  unfold Bs.under
  obtain ⟨h1, h2⟩ := Bs.turned_len (s.mark nmUnder) nw 8 9
  constructor
  · simp only [Bs.put_len, len_mark, len_jump, Bs.each_len, windowI, endI, List.length_cons, List.length_nil] at h1 ⊢; omega
  · simp [names_mark, names_put, names_jump, names_each, h2]
def tickNms : Nat → List (List UInt8)
  | 0 => []
  | k + 1 => tickNms k ++ [nmTick (k + 1)]
theorem ticks_names (s : Bs) : ∀ k, names (s.ticks k).M = names s.M ++ tickNms k
  | 0 => by show names s.M = names s.M ++ []; simp
  | k + 1 => by
    show names (((s.ticks k).mark (nmTick (k + 1))).put (tickL (k + 1))).M = _
    rw [names_put, names_mark, ticks_names s k]
    simp [tickNms]
theorem fresh1 : ∀ x ∈ [nmUnder, nmUnderIn], x ∉ [nmOver, nmOverIn] := by decide
theorem fresh2 : ∀ k : Nat, k < 16 → 1 ≤ k → nmTick k ∉ [nmOver, nmOverIn, nmUnder, nmUnderIn] := by decide
theorem fresh3 : ∀ x ∈ tenNms, x ∉ [nmOver, nmOverIn, nmUnder, nmUnderIn] ++ tickNms 15 := by decide
theorem fresh4 : nmStart ∉ [nmOver, nmOverIn, nmUnder, nmUnderIn] ++ tickNms 15 ++ [nmEnd, nmYield, nmYieldEach, nmYieldIn, nmSwap, nmSwapCount, nmSwapEach, nmSwapNot, nmSwapIt, nmSwapIn] := by decide
/-- What the plain law needs: reckoned for every number of windows. -/
def bootFine (nw : Nat) : Bool :=
  decide (wordsE (Bs.boot nw).M 0 (Bs.boot nw).L = 0) && (Bs.boot nw).M.all (fun e => decide (0 ≤ e.2 ∧ e.2 < 1000)) && decide ((bootW nw).length ≤ 386) && (bootW nw).all (fun x => decide (0 ≤ x ∧ x < 4294967296)) && decide (192 < bootN nw - 0 + 64 ∧ bootN nw < (bootW nw).length)
end Go.Proofs.YtkejnhleajfcjaaGreatDoor
/- The whole runtime is fine: reckoned for every number of windows. No walk. -/
namespace Go.Proofs.YtkejnhleajfcjaaGreatDoor
theorem boot_fine2 : bootFine 2 = true := by kernel_rfl
theorem boot_fine3 : bootFine 3 = true := by kernel_rfl
theorem boot_fine4 : bootFine 4 = true := by kernel_rfl
theorem boot_fine5 : bootFine 5 = true := by kernel_rfl
theorem boot_fine6 : bootFine 6 = true := by kernel_rfl
theorem boot_fine7 : bootFine 7 = true := by kernel_rfl
theorem boot_fine8 : bootFine 8 = true := by kernel_rfl
theorem boot_fine9 : bootFine 9 = true := by kernel_rfl
theorem boot_fine10 : bootFine 10 = true := by kernel_rfl
theorem boot_fine11 : bootFine 11 = true := by kernel_rfl
theorem boot_fine12 : bootFine 12 = true := by kernel_rfl
theorem boot_fine13 : bootFine 13 = true := by kernel_rfl
theorem boot_fine14 : bootFine 14 = true := by kernel_rfl
theorem boot_fine15 : bootFine 15 = true := by kernel_rfl
theorem boot_fine16 : bootFine 16 = true := by kernel_rfl
theorem boot_fine17 : bootFine 17 = true := by kernel_rfl
theorem boot_fine18 : bootFine 18 = true := by kernel_rfl
theorem boot_fine19 : bootFine 19 = true := by kernel_rfl
theorem boot_fine20 : bootFine 20 = true := by kernel_rfl
theorem boot_fine21 : bootFine 21 = true := by kernel_rfl
theorem boot_fine22 : bootFine 22 = true := by kernel_rfl
theorem boot_fine23 : bootFine 23 = true := by kernel_rfl
theorem boot_fine24 : bootFine 24 = true := by kernel_rfl
theorem boot_fine25 : bootFine 25 = true := by kernel_rfl
theorem boot_fine26 : bootFine 26 = true := by kernel_rfl
theorem boot_fine27 : bootFine 27 = true := by kernel_rfl
theorem boot_fine28 : bootFine 28 = true := by kernel_rfl
theorem boot_fine29 : bootFine 29 = true := by kernel_rfl
theorem boot_fine30 : bootFine 30 = true := by kernel_rfl
theorem boot_fine31 : bootFine 31 = true := by kernel_rfl
theorem boot_fine32 : bootFine 32 = true := by kernel_rfl
theorem boot_fine : ∀ {nw : Nat}, 2 ≤ nw → nw ≤ 32 → bootFine nw = true
  | 2, _, _ => boot_fine2
  | 3, _, _ => boot_fine3
  | 4, _, _ => boot_fine4
  | 5, _, _ => boot_fine5
  | 6, _, _ => boot_fine6
  | 7, _, _ => boot_fine7
  | 8, _, _ => boot_fine8
  | 9, _, _ => boot_fine9
  | 10, _, _ => boot_fine10
  | 11, _, _ => boot_fine11
  | 12, _, _ => boot_fine12
  | 13, _, _ => boot_fine13
  | 14, _, _ => boot_fine14
  | 15, _, _ => boot_fine15
  | 16, _, _ => boot_fine16
  | 17, _, _ => boot_fine17
  | 18, _, _ => boot_fine18
  | 19, _, _ => boot_fine19
  | 20, _, _ => boot_fine20
  | 21, _, _ => boot_fine21
  | 22, _, _ => boot_fine22
  | 23, _, _ => boot_fine23
  | 24, _, _ => boot_fine24
  | 25, _, _ => boot_fine25
  | 26, _, _ => boot_fine26
  | 27, _, _ => boot_fine27
  | 28, _, _ => boot_fine28
  | 29, _, _ => boot_fine29
  | 30, _, _ => boot_fine30
  | 31, _, _ => boot_fine31
  | 32, _, _ => boot_fine32
  | 0, h, _ => absurd h (by omega)
  | 1, h, _ => absurd h (by omega)
  | n + 33, _, h => absurd h (by omega)
end Go.Proofs.YtkejnhleajfcjaaGreatDoor
