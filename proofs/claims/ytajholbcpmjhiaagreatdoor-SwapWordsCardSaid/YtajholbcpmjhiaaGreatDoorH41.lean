/- Several texts in one: MemRef, MemRefRow, SwapGo, SwapNo. -/
import Derived.Test.YtajholbcpmjhiaaGreatDoorH01
import Derived.Test.YtajholbcpmjhiaaGreatDoorH04
import Derived.Test.YtajholbcpmjhiaaGreatDoorH05
import Derived.Test.YtajholbcpmjhiaaGreatDoorH09
import Derived.Test.YtajholbcpmjhiaaGreatDoorH14
import Derived.Test.YtajholbcpmjhiaaGreatDoorH02
import Derived.Test.YtajholbcpmjhiaaGreatDoorH03
import Derived.Test.YtajholbcpmjhiaaGreatDoorH06
import Derived.Test.YtajholbcpmjhiaaGreatDoorH07
import Derived.Test.YtajholbcpmjhiaaGreatDoorH08
import Derived.Test.YtajholbcpmjhiaaGreatDoorH10
import Derived.Test.YtajholbcpmjhiaaGreatDoorH11
import Derived.Test.YtajholbcpmjhiaaGreatDoorH12
import Derived.Test.YtajholbcpmjhiaaGreatDoorH13
import Derived.Test.YtajholbcpmjhiaaGreatDoorH15
import Derived.Test.YtajholbcpmjhiaaGreatDoorH16
import Derived.Test.YtajholbcpmjhiaaGreatDoorH17
import Derived.Test.YtajholbcpmjhiaaGreatDoorH18
import Derived.Test.YtajholbcpmjhiaaGreatDoorH19
import Derived.Test.YtajholbcpmjhiaaGreatDoorH20
import Derived.Test.YtajholbcpmjhiaaGreatDoorH21
import Derived.Test.YtajholbcpmjhiaaGreatDoorH22
import Derived.Test.YtajholbcpmjhiaaGreatDoorH23
import Derived.Test.YtajholbcpmjhiaaGreatDoorH24
import Derived.Test.YtajholbcpmjhiaaGreatDoorH25
import Derived.Test.YtajholbcpmjhiaaGreatDoorH26
import Derived.Test.YtajholbcpmjhiaaGreatDoorH27
import Derived.Test.YtajholbcpmjhiaaGreatDoorH28
import Derived.Test.YtajholbcpmjhiaaGreatDoorH29
import Derived.Test.YtajholbcpmjhiaaGreatDoorH30
import Derived.Test.YtajholbcpmjhiaaGreatDoorH31
import Derived.Test.YtajholbcpmjhiaaGreatDoorH32
import Derived.Test.YtajholbcpmjhiaaGreatDoorH33
import Derived.Test.YtajholbcpmjhiaaGreatDoorH34
import Derived.Test.YtajholbcpmjhiaaGreatDoorH35
import Derived.Test.YtajholbcpmjhiaaGreatDoorH36
import Derived.Test.YtajholbcpmjhiaaGreatDoorH37
import Derived.Test.YtajholbcpmjhiaaGreatDoorH38
import Derived.Test.YtajholbcpmjhiaaGreatDoorH39
import Derived.Test.YtajholbcpmjhiaaGreatDoorH40
import Derived.WalkKit
import Derived.Laws.AppendOwn
import Derived.Below
import Derived.Deep.QuietTactic
import Derived.BigQuiet
import Derived.WalkSpells
import Derived.Test.YtajholbcpmjhiaaGreatDoorProg
import Derived.Handy
import Derived.WalkLawsBesides
import Derived.StillTailTactics
import Derived.ProofKit
import Derived.OpenShut
import Derived.RegionTactic
import Derived.Outline
import Derived.Lib.BitFns
import Derived.BigRegion
import Derived.ChangeAlike
import Derived.Maps.OwnSet
import Derived.Maps.Views
import Derived.Laws.AppendOwnNone
import Derived.WalkArith
import Derived.OneCell
import Derived.ArgAppend
import Derived.Lib.SliceRun
import Derived.Laws.Rows
import Derived.IntWalk
import Derived.Laws.CopyOwn
import Derived.Great.Ranges
import Derived.RangeFuncNested
import Derived.RangeFuncBound
import Derived.RangeFuncCalls
import Derived.RangeFuncLeaves
import Derived.Shelf.Abstract
import Derived.Shelf.RegionOpen
import Derived.OwnWalkIn
import Derived.TacticsInMore
import Derived.LoopNIn
import Derived.LoopIn
import Derived.RegionIn
import Derived.Deep.RegionHeld
import Derived.Deep.RegionHeld3
import Derived.Deep.Cut
import Derived.Laws.EntriesVeiled
import Derived.Deep.RegionLaw
import Derived.Shelf.SlMaps.Clone
import Derived.Deep.AppendLies
import Derived.BigGuardPart
import Derived.Lib.ParseIntB
import Derived.Lib.ItoaNum
import Derived.Shelf.Strings.Cut
import Derived.Shelf.Small.Wraps
import Derived.Shelf.Pu.ParseUintPublic10
import Derived.Shelf.Strconv.Itoa3
import Derived.WalkSmall
import Derived.Lib.IndexMore
import Derived.Maps.AppendAt
import Derived.Deep.Slices
import Derived.Deep.CutRange
/- The walks of the document's answer for the memory (muntinref05). -/
namespace Go.Proofs.YtajholbcpmjhiaaGreatDoor
open Go.RowKit
set_option linter.unusedVariables false
set_option linter.unusedSimpArgs false
/-- A row of bytes of the call's own. -/
structure RefAt (w : World) (B g cap : Nat) (d : List Int) : Prop where
  own : w.ownsRow B 5 1 (.slice (some ⟨g, 0, none⟩) d.length cap) d.length (u8s d)
  bytes : Bytes d
  len : d.length ≤ 4194304
theorem RefAt.row {w : World} {B g cap : Nat} {d : List Int} (h : RefAt w B g cap d) : ∃ cur, B ≤ g ∧ w.heap[g]? = some (.cells cur 5 (0, 0)) ∧ d.length ≤ cap ∧ cap ≤ maxLen ∧ cur.size = cap ∧ cur.toList.take d.length = u8s d := by
  rcases h.own.2 with ⟨h1, _⟩ | ⟨g', cap', cur, hv, hg, hh, hc, hm, hs, ht⟩
  · cases h1
  · cases hv
    exact ⟨cur, hg, hh, hc, hm, by omega, by rw [← ht, Nat.mul_one]⟩
theorem RefAt.mk' {w : World} {B g cap : Nat} {d : List Int} {cur : Array Value} (hb : Bytes d) (hl : d.length ≤ 4194304) (hg : B ≤ g) (hh : w.heap[g]? = some (.cells cur 5 (0, 0))) (hc : d.length ≤ cap) (hm : cap ≤ maxLen) (hs : cur.size = cap) (ht : cur.toList.take d.length = u8s d) : RefAt w B g cap d :=
  ⟨⟨by simp [u8s], .inr ⟨g, cap, cur, rfl, hg, hh, hc, hm, by omega, by rw [Nat.mul_one]; exact ht⟩⟩, hb, hl⟩
theorem RefAt.keep {S : Nat → Prop} {a b : World} {B g cap : Nat} {d : List Int} (h : RefAt a B g cap d) (o : Only S a b) (hg : ¬ S g) : RefAt b B g cap d := by
  obtain ⟨cur, h1, h2, h3, h4, h5, h6⟩ := h.row
  exact RefAt.mk' h.bytes h.len h1 (o.obj h2 hg) h3 h4 h5 h6
theorem RefAt.lt {w : World} {B g cap : Nat} {d : List Int} (h : RefAt w B g cap d) : B ≤ g ∧ g < w.heap.size := by
  obtain ⟨cur, h1, h2, _⟩ := h.row
  exact ⟨h1, lt_of_block h2⟩
theorem RefAt.base {w : World} {B B' g cap : Nat} {d : List Int} (h : RefAt w B g cap d) (hB : B' ≤ g) : RefAt w B' g cap d := by
  obtain ⟨cur, h1, h2, h3, h4, h5, h6⟩ := h.row
  exact RefAt.mk' h.bytes h.len hB h2 h3 h4 h5 h6
theorem RefAt.byte {w : World} {B g cap : Nat} {d : List Int} (h : RefAt w B g cap d) {i : Nat} (hi : i < d.length) : w.cell? ⟨g, i, none⟩ = some (.int .u8 (d.getD i 0)) := by
  obtain ⟨cur, h1, h2, h3, h4, h5, h6⟩ := h.row
  rw [cell_of_obj h2]
  have e : cur[i]? = (cur.toList.take d.length)[i]? := by rw [List.getElem?_take_of_lt hi]; simp
  rw [e, h6]; simp [u8s, hi]
theorem RefAt.free {w : World} {B g cap : Nat} {d : List Int} (h : RefAt w B g cap d) (i : Nat) : w.frozen? ⟨g, i, none⟩ = false := by
  obtain ⟨cur, h1, h2, _⟩ := h.row
  exact free_of_obj h2
theorem RefAt.set {w : World} {B g cap : Nat} {d : List Int} (h : RefAt w B g cap d) {i : Nat} (hi : i < d.length) {x : Int} (hx : 0 ≤ x ∧ x < 256) : RefAt (w.setCell ⟨g, i, none⟩ (.int .u8 x)) B g cap (d.set i x) := by
  obtain ⟨cur, h1, h2, h3, h4, h5, h6⟩ := h.row
  refine RefAt.mk' (h.bytes.set i hx) (by simpa using h.len) h1 (obj_setCell h2 _) (by simpa using h3) h4 (by simpa using h5) ?_
  rw [List.length_set, Array.toList_setIfInBounds, List.take_set, h6]
  simp [u8s, List.map_set]
theorem RefAt.news {w : World} {B g cap : Nat} {d : List Int} (h : RefAt w B g cap d) : ∀ j u, (u8s d)[j]? = some u → w.cell? ((⟨g, 0, none⟩ : Addr).add j) = some u := by
  intro j u hj
  have hlt : j < d.length := by
    have := (List.getElem?_eq_some_iff.1 hj).1; simpa [u8s] using this
  have hb := h.byte hlt
  rw [show (⟨g, 0, none⟩ : Addr).add j = ⟨g, j, none⟩ from by unfold Addr.add; split <;> simp [*]]
  rw [hb, ← hj]
  simp [u8s, hlt]
set_option maxHeartbeats 400000 in
theorem rthere_any (p : Option Addr) (n c : Nat) (hn : n ≤ 4194304) (a many : Int) (ha : 0 ≤ a) (ha2 : a < 4294967296) (w : World) :
    Calls Tryz.prog 149 #[.slice p n c, .int .u32 a, .int .i64 many] w fun e w' => e = .returned (.int .i64 (spanE n a 1 many)) ∧ w = w' := by
  by_cases h1 : many ≠ 1 ∧ many ≠ 4
  · have e0 : spanE n a 1 many = 2 := if_pos (.inr h1)
    have E := mhid e0
    have h2 : (many != 1) = true := by simpa using h1.1
    have h3 : (many != 4) = true := by simpa using h1.2
    clear e0 h1
    go_enter Tryz.func149, Tryz.ntmps149
    go_wp2
    go_ret
    exact ⟨mret_i E.out.symm, rfl⟩
  · have hm : many = 1 ∨ many = 4 := by omega
    clear h1
    rcases hm with rfl | rfl
    · by_cases h2 : (n : Int) < a + 1
      · have E := mhid (show spanE n a 1 1 = 50 by unfold spanE; rw [if_neg (by omega), if_neg (by omega), if_pos (by omega)])
        go_enter Tryz.func149, Tryz.ntmps149
        go_wp2
        go_ret
        exact ⟨mret_i E.out.symm, rfl⟩
      · have E := mhid (show spanE n a 1 1 = 0 by unfold spanE; rw [if_neg (by omega), if_neg (by omega), if_neg (by omega)])
        go_enter Tryz.func149, Tryz.ntmps149
        go_wp2
        go_ret
        exact ⟨mret_i E.out.symm, rfl⟩
    · by_cases h4 : a % 4 = 0
      · by_cases h2 : (n : Int) < a + 4
        · have E := mhid (show spanE n a 1 4 = 50 by unfold spanE; rw [if_neg (by omega), if_neg (by omega), if_pos (by omega)])
          go_enter Tryz.func149, Tryz.ntmps149
          go_wp2
          go_ret
          exact ⟨mret_i E.out.symm, rfl⟩
        · have E := mhid (show spanE n a 1 4 = 0 by unfold spanE; rw [if_neg (by omega), if_neg (by omega), if_neg (by omega)])
          go_enter Tryz.func149, Tryz.ntmps149
          go_wp2
          go_ret
          exact ⟨mret_i E.out.symm, rfl⟩
      · have E := mhid (show spanE n a 1 4 = 51 by unfold spanE; rw [if_neg (by omega), if_pos (by omega)])
        go_enter Tryz.func149, Tryz.ntmps149
        go_wp2
        go_ret
        exact ⟨mret_i E.out.symm, rfl⟩
set_option maxHeartbeats 400000 in
theorem rspan_any (p : Option Addr) (n c : Nat) (hn : n ≤ 4194304) (a many : Int) (ha : 0 ≤ a) (ha2 : a < 4294967296) (hm2 : many ≤ 9223372036854775807) (w : World) :
    Calls Tryz.prog 93 #[.slice p n c, .int .u32 a, .int .i64 many] w fun e w' => e = .returned (.int .i64 (spanE n a many 4)) ∧ w = w' := by
  by_cases h1 : many < 0
  · have E := mhid (show spanE n a many 4 = 2 from if_pos (.inl h1))
    go_enter Tryz.func93, Tryz.ntmps93
    go_wp2
    go_ret
    exact ⟨mret_i E.out.symm, rfl⟩
  · by_cases h4 : a % 4 = 0
    · by_cases h2 : (n : Int) < a
      · have hd : decide ((n : Int) < a) = true := by simpa using h2
        have E := mhid (show spanE n a many 4 = 50 by unfold spanE; rw [if_neg (by omega), if_neg (by omega), if_pos (by omega)])
        go_enter Tryz.func93, Tryz.ntmps93
        go_wp2
        go_ret
        exact ⟨mret_i E.out.symm, rfl⟩
      · have hd : decide ((n : Int) < a) = false := by simpa using h2
        by_cases h3 : ((n : Int) - a) / 4 < many
        · have E := mhid (show spanE n a many 4 = 50 by unfold spanE; rw [if_neg (by omega), if_neg (by omega), if_pos (by omega)])
          go_enter Tryz.func93, Tryz.ntmps93
          go_wp2
          go_ret
          exact ⟨mret_i E.out.symm, rfl⟩
        · have E := mhid (show spanE n a many 4 = 0 by unfold spanE; rw [if_neg (by omega), if_neg (by omega), if_neg (by omega)])
          go_enter Tryz.func93, Tryz.ntmps93
          go_wp2
          go_ret
          exact ⟨mret_i E.out.symm, rfl⟩
    · have E := mhid (show spanE n a many 4 = 51 by unfold spanE; rw [if_neg (by omega), if_pos (by omega)])
      go_enter Tryz.func93, Tryz.ntmps93
      go_wp2
      go_ret
      exact ⟨mret_i E.out.symm, rfl⟩
set_option maxHeartbeats 1000000 in
theorem rload_any (w : World) (B g cap : Nat) (d : List Int) (h : RefAt w B g cap d) (a many : Int) (ha : 0 ≤ a) (ha2 : a < 4294967296) :
    Calls Tryz.prog 94 #[.slice (some ⟨g, 0, none⟩) d.length cap, .int .u32 a, .int .i64 many] w fun e w' => e = .returned (.tuple #[.int .u32 (loadV d a many), .int .i64 (spanE d.length a 1 many)]) ∧ w = w' := by
  have ht := rthere_any (some ⟨g, 0, none⟩) d.length cap h.len a many ha ha2 w
  have HT := mhid ht
  have H := mhid h
  clear ht h
  by_cases he : spanE d.length a 1 many = 0
  · obtain ⟨_, h4, _, h5⟩ := spanE_ok he ha
    have E := mhid he
    have hlen := H.out.len
    obtain ⟨A, rfl⟩ := Int.eq_ofNat_of_zero_le ha
    obtain ⟨M, rfl⟩ : ∃ M : Nat, many = (M : Int) := ⟨many.toNat, by omega⟩
    have hM : M = 1 ∨ M = 4 := by omega
    have hv : loadV d A M = beS d A M := by
      unfold loadV; rw [if_pos he]
      rcases hM with rfl | rfl
      · exact (beS_one d A).symm
      · exact (beS_four d A).symm
    have HV := mhid hv
    have hM4 : M ≤ 4 := by omega
    have hr : A + M ≤ d.length := by rcases hM with rfl | rfl <;> omega
    clear he hv hM h4 h5
    go_enter Tryz.func94, Tryz.ntmps94
    go_wp2_with fail
    refine HT.out.mono ?_
    rw [E.out]
    rintro e w' ⟨rfl, rfl⟩
    clear HT
    go_wp2_with fail
    go_loop [9, 10] (fun x i => ∃ k : Nat, k ≤ M ∧ i = .int .i64 k ∧ x = .int .u32 (beS d A k)) (fun _ i => M - (intOf i).toNat)
    case atStart => exact ⟨0, Nat.zero_le _, rfl, rfl⟩
    case round =>
      obtain ⟨k, hk, rfl, rfl⟩ := hrel
      by_cases hlt : k < M
      · have hkm : (k : Int) < M := by omega
        have hcell := H.out.byte (i := A + k) (by omega)
        have hb := beS_bd H.out.bytes A k (by omega)
        have hb3 := hb.2.2 (by omega)
        have hx := H.out.bytes.at (A + k)
        have hsu : beS d A (k + 1) = beS d A k * 256 + d.getD (A + k) 0 := rfl
        have SU := mhid hsu
        clear hsu
        generalize d.getD (A + k) 0 = y at hcell hx SU
        generalize beS d A k = z at hb hb3 SU ⊢
        go_wp2_with fail
        exact ⟨⟨k + 1, by omega, by go_num, by rw [SU.out]; congr 1; omega⟩, by simp [intOf] <;> omega⟩
      · obtain rfl : k = M := by omega
        go_wp2_with fail
        go_ret2
        exact ⟨mret_ii HV.out.symm E.out.symm, rfl⟩
  · have E := mhid (show loadV d a many = 0 from if_neg he)
    have he2 : (spanE d.length a 1 many != 0) = true := by simpa using he
    clear he
    go_enter Tryz.func94, Tryz.ntmps94
    go_wp2_with fail
    refine HT.out.mono ?_
    generalize hq : spanE d.length a 1 many = q at he2 ⊢
    have HQ := mhid hq
    clear hq
    rintro e w' ⟨rfl, rfl⟩
    clear HT
    go_wp2_with fail
    go_ret2
    exact ⟨mret_ii E.out.symm HQ.out.symm, rfl⟩
end Go.Proofs.YtajholbcpmjhiaaGreatDoor
/- The walks of muntinref05.Put, Words and of muntinlaw05.same. -/
namespace Go.Proofs.YtajholbcpmjhiaaGreatDoor
open Go.RowKit
set_option linter.unusedVariables false
set_option linter.unusedSimpArgs false
set_option maxHeartbeats 1000000 in
theorem mrwords_any (w : World) (B g cap : Nat) (d : List Int) (h : RefAt w B g cap d) (a : Int) (ha : 0 ≤ a) (ha2 : a < 4294967296) (n : Int) (hn : n ≤ 9223372036854775807) :
    Calls Tryz.prog 32 #[.slice (some ⟨g, 0, none⟩) d.length cap, .int .u32 a, .int .i64 n] w (Tells d a n w) := by
  have hs := rspan_any (some ⟨g, 0, none⟩) d.length cap h.len a n ha ha2 hn w
  have HS := mhid hs
  have H := mhid h
  have hlen := h.len
  have hB := h.lt
  clear hs h
  obtain ⟨i0, hi, hz0, hz1, hz2⟩ := info_parts info32
  by_cases he : spanE d.length a n 4 = 0
  · obtain ⟨h3, _, h4, h5⟩ := spanE_ok he ha
    have HE := mhid he
    clear he
    obtain ⟨N, rfl⟩ := Int.eq_ofNat_of_zero_le h3
    obtain ⟨A, rfl⟩ := Int.eq_ofNat_of_zero_le ha
    clear h3 hn
    go_enter Tryz.func32, Tryz.ntmps32
    go_wp2_with fail
    refine HS.out.mono ?_
    rw [HE.out]
    rintro e w' ⟨rfl, rfl⟩
    clear HS
    go_wp2_with fail
    go_loopw [9, 10] (fun v i wr => ∃ k : Nat, k ≤ N ∧ i = .int .i64 k ∧ wr.ownsRow w.heap.size 24 1 v k (u32s (wordsS d A k)) ∧ Below w.heap.size w wr) (fun _ i _ => N - (intOf i).toNat)
    case atStart => exact ⟨0, Nat.zero_le _, rfl, World.ownsRow_nil _ _ _ _, Below.refl _ _⟩
    case round =>
      obtain ⟨k, hk, rfl, hown, hbl⟩ := hrel
      by_cases hlt : k < N
      · have href : RefAt wr B g cap d := H.out.keep (Only.of_below (S := fun _ => False) hbl) id
        have q2 : k + 1 ≤ maxLen := by unfold maxLen; omega
        have q3 : (k + 1) * 4 ≤ 140737488355328 := by omega
        have q4 := hbl.size
        have q5 : w.heap.size ≤ wr.heap.size + 1 := by omega
        have hx := loadS_bd H.out.bytes (A + 4 * k) 4
        have e4 : spanE d.length ((A : Int) + 4 * (k : Int)) 1 4 = 0 := by unfold spanE; rw [if_neg (by omega), if_neg (by omega), if_neg (by omega)]
        have hwd := rload_any wr B g cap d href ((A : Int) + 4 * (k : Int)) 4 (by omega) (by omega)
        rw [show loadV d ((A : Int) + 4 * (k : Int)) 4 = loadS d (A + 4 * k) 4 from by unfold loadV; rw [if_pos e4]; congr 1] at hwd
        rw [e4] at hwd
        have hsu := wordsS_succ d A k
        have HSU := mhid hsu
        have HW := mhid hwd
        have HB := mhid hbl
        clear hsu hwd href hbl e4
        generalize loadS d (A + 4 * k) 4 = x at hx HSU HW
        have hk4 : (k : Int) < N := by omega
        go_wp2_with fail
        refine HW.out.mono ?_
        rintro e w' ⟨rfl, rfl⟩
        clear HW
        go_wp2_with (at_builtin; refine wpList_append_own _ rfl _ _ 22 rfl w.heap.size 24 i0 (.int .u32 0) 1 4 Tryz.underlying22 hi hz0 hz1 hz2 rfl (by decide) _ k (u32s (wordsS d A k)) rfl (hown.alloc _) ⟨wr.heap.size, 0, none⟩ 1 1 [.int .u32 x] rfl rfl (cell_one_new _ _ _) (by simp [Value.oneCell']) q2 q3 (by simpa using q5) ?_; intro v' w1 hown1 hgrow1 hnil)
        have hb1 : Below w.heap.size w w1 := (HB.out.alloc q4 _).grown hgrow1 (by simpa using q5) (fun r e => ((hown.alloc (.cells #[.int .u32 x] 24)).lt r e).1)
        go_roundw
        case rel => exact ⟨k + 1, by omega, by go_num, by rw [HSU.out]; simpa [u32s] using hown1, hb1⟩
        case measure => simp [intOf] <;> omega
      · obtain rfl : k = N := by omega
        go_wp2_with fail
        go_ret2
        exact ⟨_, wordsS d A k, tell_ret HE.out.symm, by rw [if_pos HE.out]; rfl, by rw [wordsS_len]; exact hown, hbl⟩
  · have E := mhid he
    have he2 : (spanE d.length a n 4 != 0) = true := by simpa using he
    clear he
    go_enter Tryz.func32, Tryz.ntmps32
    go_wp2_with fail
    refine HS.out.mono ?_
    generalize hq : spanE d.length a n 4 = q at he2 ⊢
    have HQ := mhid hq
    clear hq
    rintro e w' ⟨rfl, rfl⟩
    clear HS
    go_wp2_with fail
    go_ret2
    exact ⟨_, [], tell_ret HQ.out.symm, by rw [if_neg E.out], own_nil _ _, Below.refl _ _⟩
end Go.Proofs.YtajholbcpmjhiaaGreatDoor
/- The machine that made gives runs through its turn. -/
namespace Go.Proofs.YtajholbcpmjhiaaGreatDoor
open Go.RowKit
set_option linter.unusedVariables false
set_option linter.unusedSimpArgs false
def alN (x : CaseS) (t : Nat) : Nat := if x.alive t then 1 else 0
theorem alN_I (x : CaseS) (t : Nat) : aliveI x t = (alN x t : Int) := by unfold aliveI alN; split <;> rfl
def nS (x : CaseS) : Nat := ((x.inv - x.cwp) % x.nw).toNat
theorem MadeS.trap {x : CaseS} {m : Mx} (h : MadeS x m) (hm : mayS x) (hx : 0 ≤ x.choice ∧ x.choice < 4294967296) (hok : m.ok) :
    AtTrap m x.cwp.toNat x.inv.toNat (nS x) x.pil x.flags x.runs.toNat x.threads.toNat x.choice.toNat (alN x) x.en := by
  obtain ⟨⟨n2, n32⟩, ⟨c0, c1⟩, ⟨i0, i1⟩, hne, ⟨t1, t4⟩, ⟨r0, r1⟩, -⟩ := hm
  have e := h.nw
  have hw : winP x.nw := ⟨n2, n32⟩
  have hs := fun k => res_step (x := x.cwp) (fin := x.inv) (nw := x.nw) hw ⟨i0, i1⟩ ⟨c0, c1⟩ k
  have hnn : ((nS x : Nat) : Int) = (x.inv - x.cwp) % x.nw := by unfold nS; exact Int.toNat_of_nonneg (Int.emod_nonneg _ (by omega))
  have hlt : (x.inv - x.cwp) % x.nw < x.nw := Int.emod_lt_of_pos _ (by omega)
  have hcw : ((x.cwp.toNat : Nat) : Int) = x.cwp := Int.toNat_of_nonneg c0
  have hiv : ((x.inv.toNat : Nat) : Int) = x.inv := Int.toNat_of_nonneg i0
  have cast : ∀ j : Nat, (((x.cwp.toNat + j) % m.f.nw : Nat) : Int) = (x.cwp + (j : Int)) % x.nw := fun j => by
    rw [Int.natCast_emod, e, Int.natCast_add, hcw]
  have hend : (x.cwp + ((nS x : Nat) : Int)) % x.nw = x.inv := (hs 0).2.1
  refine { ok := hok, kind := h.kind, pc := h.pc, p := by rw [h.p, hcw], cwL := by omega, invL := by omega, wim := h.wim, n0 := ?_, nn := by omega, ne := ?_, no := fun j h1 h2 hh => ?_, len := h.mem.len, hs := h.mem.hs, v3 := h.mem.v3, v4 := h.mem.v4, at' := h.mem.at', fr := fun w hw2 => ?_, curL := by rw [h.mem.curL, Int.toNat_of_nonneg r0], cur4 := by omega, T4 := by omega, th := by rw [h.mem.th, Int.toNat_of_nonneg (by omega)], av := fun t ht => ?_, one := fun t => by unfold alN; split <;> omega, cb := by omega, ch := ?_ }
  · rcases Nat.eq_zero_or_pos (nS x) with h0 | h0
    · rw [h0] at hend
      have : (x.cwp + ((0 : Nat) : Int)) % x.nw = x.cwp := by rw [show x.cwp + ((0 : Nat) : Int) = x.cwp by omega]; exact Int.emod_eq_of_lt c0 c1
      exact absurd (hend.symm.trans this) hne
    · exact h0
  · have := cast (nS x)
    rw [hend] at this; omega
  · have h3 := (hs j).1 (by show j < nS x; exact h2)
    have := cast j
    rw [hh] at this
    exact h3 (by rw [← this]; exact hiv)
  · obtain ⟨A, q1, q2⟩ := h.sp w hw2 hw2
    rw [getV_out hok.f.nw2 hw2] at q1
    exact ⟨A, q1, q2⟩
  · have := (h.mem.tcb t (by omega)).2.2.2
    rw [this, alN_I]
  · rw [h.ch]; show x.choice = _; rw [Int.toNat_of_nonneg hx.1]
/-- Where the thread goes on, and where its frame lies. -/
def pcS (x : CaseS) (t : Nat) : Nat := if x.en = false ∧ t = x.runs.toNat then 1540 else 1700 + 4 * t
def spS (x : CaseS) (m : Mx) (t : Nat) : Nat := if x.en = false ∧ t = x.runs.toNat then frW m.f.win m.f.nw x.cwp.toNat else (frmX (x.stacks t)).toNat
def liveS (x : CaseS) : Nat := cntL (alE (alN x) x.runs.toNat x.en) x.threads.toNat 0
def nextT (x : CaseS) : Nat := seekL (alE (alN x) x.runs.toNat x.en) x.threads.toNat 0 (x.choice.toNat % liveS x)
theorem swap_go {x : CaseS} {m : Mx} (h : MadeS x m) (hm : mayS x) (hx : 0 ≤ x.choice ∧ x.choice < 4294967296) (hst : ∀ t, 0 ≤ x.stacks t ∧ x.stacks t < 65536) (hok : m.ok) (hl : 0 < liveS x) :
    ∃ k m', 1 ≤ k ∧ k ≤ 26 * nS x + 125 ∧ Rest (pcS x (nextT x) : Nat) k m m' ∧ AfterS m m' (pcS x (nextT x) : Nat) ((x.cwp.toNat + 1) % m.f.nw) ∧ (2048 ≤ spS x m (nextT x) ∧ spS x m (nextT x) % 4 = 0 ∧ spS x m (nextT x) + 64 ≤ 8192) ∧ nextT x < x.threads.toNat ∧
      m'.f.win = setW (m.f.win.set (16 * ((x.cwp.toNat + m.f.nw - 1) % m.f.nw) + 14) (spS x m (nextT x))) x.cwp.toNat (wordsS (nextS (halfS m x.cwp.toNat (nS x) x.runs.toNat x.en) (nextT x)) (spS x m (nextT x)) 16) ∧ m'.mem = nextS (halfS m x.cwp.toNat (nS x) x.runs.toNat x.en) (nextT x) := by
  have ha := h.trap hm hx hok
  obtain ⟨hl8, htcb⟩ := half_tcb ha
  have htl := seek_lt (alE (alN x) x.runs.toNat x.en) x.threads.toNat 0 _ (Nat.mod_lt x.choice.toNat hl) htcb.one
  have htT : nextT x < x.threads.toNat := by have := htl.1; unfold nextT liveS; omega
  have hT4 := ha.T4
  have hc4 := ha.cur4
  have hlen := ha.len
  have hnw2 := hok.f.nw2
  have hfr : ∀ k, 2048 ≤ frW m.f.win m.f.nw ((x.cwp.toNat + k) % m.f.nw) := fun k => (ha.fr.at (Nat.mod_lt _ (by omega))).2.1
  obtain ⟨f1, f2, f3, f4⟩ := ha.fr.at ha.cwL
  have ht4 : nextT x < 4 := by omega
  obtain ⟨w1, w2, w3, w4⟩ := h.mem.tcb (nextT x) ht4
  have hfb := hst (nextT x)
  have hfx : 2048 ≤ (frmX (x.stacks (nextT x))).toNat ∧ (frmX (x.stacks (nextT x))).toNat % 4 = 0 ∧ (frmX (x.stacks (nextT x))).toNat + 64 ≤ 8192 ∧ (((frmX (x.stacks (nextT x))).toNat : Nat) : Int) = frmX (x.stacks (nextT x)) := by unfold frmX; omega
  have hsb : 2048 ≤ spS x m (nextT x) ∧ spS x m (nextT x) % 4 = 0 ∧ spS x m (nextT x) + 64 ≤ 8192 := by
    unfold spS; split
    · exact ⟨f2, f3, f4⟩
    · exact ⟨hfx.1, hfx.2.1, hfx.2.2.1⟩
  have hpcl : loadS (halfS m x.cwp.toNat (nS x) x.runs.toNat x.en) (16 * nextT x + 64) 4 = (pcS x (nextT x) : Nat) ∧ loadS (halfS m x.cwp.toNat (nS x) x.runs.toNat x.en) (16 * nextT x + 68) 4 = (spS x m (nextT x) : Nat) := by
    unfold halfS pcS spS keepS
    cases x.en
    · simp only [Bool.false_eq_true, if_false, true_and]
      by_cases e : nextT x = x.runs.toNat
      · rw [if_pos e, if_pos e, e]
        refine ⟨?_, ?_⟩
        · rw [load_far _ (by omega), load_own (by decide) (by rw [flushS_len]; omega)]; rfl
        · rw [load_own ⟨by omega, by omega⟩ (by rw [storeS_len, flushS_len]; omega)]
      · rw [if_neg e, if_neg e]
        refine ⟨?_, ?_⟩
        · rw [load_far _ (by omega), load_far _ (by omega), load_flush (by omega) hfr, w1]; omega
        · rw [load_far _ (by omega), load_far _ (by omega), load_flush (by omega) hfr, w2, hfx.2.2.2]
    · simp only [if_true, Bool.true_eq_false, false_and, if_false]
      refine ⟨?_, ?_⟩
      · rw [load_far _ (by omega), w1]; omega
      · rw [load_far _ (by omega), w2, hfx.2.2.2]
  have hne : ((pcS x (nextT x) : Nat) : Int) ≠ 1536 := by unfold pcS; split <;> omega
  obtain ⟨k, m', g1, g2, g3, g4, g5⟩ := swap_turn ha hl rfl (sp := spS x m (nextT x)) (pc := (pcS x (nextT x) : Nat)) hpcl.2 hsb hpcl.1 hne
  refine ⟨k, m', ?_, g1, ⟨g2, g3.kind, g3.pc, by rw [g3.p, h.p]⟩, g3, hsb, htT, g4, g5⟩
  cases k with
  | zero =>
    obtain rfl : m = m' := g2
    exact absurd (g3.pc.symm.trans h.pc) hne
  | succ k => omega
end Go.Proofs.YtajholbcpmjhiaaGreatDoor
/- swap.All where there is no list, or too many windows. -/
namespace Go.Proofs.YtajholbcpmjhiaaGreatDoor
open Go.RowKit Go.Maps
set_option linter.unusedVariables false
set_option linter.unusedSimpArgs false
set_option maxRecDepth 100000 in
set_option maxHeartbeats 4000000 in
theorem swall_nil (w : World) (n : Int) : Calls Tryz.prog 30 #[.pointer none, .int .i64 n] w fun e w' => e = .returned (.int .i64 1) ∧ w = w' := by
  go_enter Tryz.func30, Tryz.ntmps30
  go_wp2_with fail
  refine (acopy_none w _ (anone_nil w)).mono ?_
  rintro e w' ⟨rfl, rfl⟩
  go_wp2_with fail
  go_ret
  exact ⟨rfl, rfl⟩
set_option maxRecDepth 100000 in
set_option maxHeartbeats 4000000 in
theorem swall_bad {W w : World} {pa : Nat} {S : Nat → Prop} {s : Bs} (h : BsAt W w pa S s) (hL : s.L.length < 4294967296) (n : Int) (hn : okE 0 n = 2) :
    Calls Tryz.prog 30 #[.pointer (some ⟨pa, 0, none⟩), .int .i64 n] w fun e w' => e = .returned (.int .i64 2) ∧ Below w.heap.size w w' := by
  have HC := ahid (bs_copy h hL)
  have HK := ahid hn
  clear h hn
  go_enter Tryz.func30, Tryz.ntmps30
  go_wp2_with fail
  refine HC.out.mono ?_
  rintro e w1 ⟨⟨q, rfl⟩, hb1⟩
  go_wp2_with fail
  refine (wim_any 0 n w1).mono ?_
  rintro e w2 ⟨rfl, hb2⟩
  rw [HK.out]
  have HB := ahid (hb1.trans (hb2.mono hb1.size))
  clear hb1 hb2
  go_wp2_with fail
  go_ret
  exact ⟨rfl, HB.out⟩
end Go.Proofs.YtajholbcpmjhiaaGreatDoor
