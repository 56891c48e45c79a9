/- Several texts in one: SwapWordsWalk. -/
import Derived.Test.YtajholbcpmjhiaaGreatDoorH01
import Derived.Test.YtajholbcpmjhiaaGreatDoorH02
import Derived.Test.YtajholbcpmjhiaaGreatDoorH03
import Derived.Test.YtajholbcpmjhiaaGreatDoorH04
import Derived.Test.YtajholbcpmjhiaaGreatDoorH05
import Derived.Test.YtajholbcpmjhiaaGreatDoorH06
import Derived.Test.YtajholbcpmjhiaaGreatDoorH07
import Derived.Test.YtajholbcpmjhiaaGreatDoorH08
import Derived.Test.YtajholbcpmjhiaaGreatDoorH09
import Derived.Test.YtajholbcpmjhiaaGreatDoorH10
import Derived.Test.YtajholbcpmjhiaaGreatDoorH11
import Derived.Test.YtajholbcpmjhiaaGreatDoorH12
import Derived.Test.YtajholbcpmjhiaaGreatDoorH13
import Derived.Test.YtajholbcpmjhiaaGreatDoorH14
import Derived.Test.YtajholbcpmjhiaaGreatDoorH15
import Derived.Test.YtajholbcpmjhiaaGreatDoorH16
import Derived.Test.YtajholbcpmjhiaaGreatDoorH17
import Derived.Test.YtajholbcpmjhiaaGreatDoorH18
import Derived.Test.YtajholbcpmjhiaaGreatDoorH19
import Derived.Test.YtajholbcpmjhiaaGreatDoorH20
import Derived.Test.YtajholbcpmjhiaaGreatDoorH21
import Derived.Test.YtajholbcpmjhiaaGreatDoorH22
import Derived.Test.YtajholbcpmjhiaaGreatDoorH23
import Derived.Test.YtajholbcpmjhiaaGreatDoorH24
import Derived.Test.YtajholbcpmjhiaaGreatDoorH25
import Derived.Test.YtajholbcpmjhiaaGreatDoorH26
import Derived.Test.YtajholbcpmjhiaaGreatDoorH27
import Derived.Test.YtajholbcpmjhiaaGreatDoorH28
import Derived.Test.YtajholbcpmjhiaaGreatDoorH29
import Derived.Test.YtajholbcpmjhiaaGreatDoorH30
import Derived.Test.YtajholbcpmjhiaaGreatDoorH31
import Derived.Test.YtajholbcpmjhiaaGreatDoorH32
import Derived.Test.YtajholbcpmjhiaaGreatDoorH33
import Derived.Test.YtajholbcpmjhiaaGreatDoorH34
import Derived.Test.YtajholbcpmjhiaaGreatDoorH35
import Derived.Test.YtajholbcpmjhiaaGreatDoorH36
import Derived.Test.YtajholbcpmjhiaaGreatDoorH37
import Derived.Test.YtajholbcpmjhiaaGreatDoorH38
import Derived.Test.YtajholbcpmjhiaaGreatDoorH39
import Derived.Test.YtajholbcpmjhiaaGreatDoorH40
import Derived.Test.YtajholbcpmjhiaaGreatDoorH41
import Derived.Test.YtajholbcpmjhiaaGreatDoorH42
import Derived.WalkKit
import Derived.Laws.AppendOwn
import Derived.Below
import Derived.Deep.QuietTactic
import Derived.BigQuiet
import Derived.WalkSpells
import Derived.Test.YtajholbcpmjhiaaGreatDoorProg
import Derived.Handy
import Derived.WalkLawsBesides
import Derived.RegionTactic
import Derived.Outline
import Derived.Lib.BitFns
import Derived.StillTailTactics
import Derived.BigRegion
import Derived.ChangeAlike
import Derived.Maps.OwnSet
import Derived.Maps.Views
import Derived.Laws.AppendOwnNone
import Derived.WalkArith
import Derived.OneCell
import Derived.ArgAppend
import Derived.Lib.SliceRun
import Derived.Laws.Rows
import Derived.IntWalk
import Derived.Laws.CopyOwn
import Derived.Great.Ranges
import Derived.ProofKit
import Derived.OpenShut
import Derived.RangeFuncNested
import Derived.RangeFuncBound
import Derived.RangeFuncCalls
import Derived.RangeFuncLeaves
import Derived.Shelf.Abstract
import Derived.Shelf.RegionOpen
import Derived.OwnWalkIn
import Derived.TacticsInMore
import Derived.LoopNIn
import Derived.LoopIn
import Derived.RegionIn
import Derived.Deep.RegionHeld
import Derived.Deep.RegionHeld3
import Derived.Deep.Cut
import Derived.Laws.EntriesVeiled
import Derived.Deep.RegionLaw
import Derived.Shelf.SlMaps.Clone
import Derived.Deep.AppendLies
import Derived.BigGuardPart
import Derived.Lib.ParseIntB
import Derived.Lib.ItoaNum
import Derived.Shelf.Strings.Cut
import Derived.Shelf.Small.Wraps
import Derived.Shelf.Pu.ParseUintPublic10
import Derived.Shelf.Strconv.Itoa3
import Derived.WalkSmall
import Derived.Lib.IndexMore
import Derived.Maps.AppendAt
import Derived.Deep.Slices
import Derived.Deep.CutRange
import Derived.Deep.WholeRow
import Derived.Deep.OwnRows
/- The walk of muntinlaw10.SwapWords. -/
namespace Go.Proofs.YtajholbcpmjhiaaGreatDoor
open Go.RowKit
set_option linter.unusedVariables false
set_option linter.unusedSimpArgs false
/-- Two lists side by side. -/
structure STwo (W w : World) (pa pb : Nat) (Sa Sb : Nat → Prop) (sa sb : Bs) : Prop where
  A : BsAt W w pa Sa sa
  B : BsAt W w pb Sb sb
  no : ∀ k, Sa k → ¬ Sb k
theorem BsAt.keepO {W w w' : World} {pa : Nat} {S T : Nat → Prop} {s : Bs} (h : BsAt W w pa T s) (o : Only S w w') (hd : ∀ k, T k → ¬ S k) (hS : ∀ k, S k → W.heap.size ≤ k) (hb : Below W.heap.size W w') : BsAt W w' pa T s :=
  ⟨h.lst.keep o hd, h.tab.keepO o hS, hb⟩
theorem STwo.symm {W w : World} {pa pb : Nat} {Sa Sb : Nat → Prop} {sa sb : Bs} (h : STwo W w pa pb Sa Sb sa sb) : STwo W w pb pa Sb Sa sb sa := ⟨h.B, h.A, fun k hb ha => h.no k ha hb⟩
theorem STwo.keepb {W w w' : World} {pa pb : Nat} {Sa Sb : Nat → Prop} {sa sb : Bs} (h : STwo W w pa pb Sa Sb sa sb) (hb : Below w.heap.size w w') : STwo W w' pa pb Sa Sb sa sb := ⟨h.A.keepb hb, h.B.keepb hb, h.no⟩
theorem STwo.go {W w w' : World} {pa pb : Nat} {Sa Sb : Nat → Prop} {sa sa' sb : Bs} (h : STwo W w pa pb Sa Sb sa sb) (hg : BsGo W w pa Sa sa' w') : ∃ Sa', STwo W w' pa pb Sa' Sb sa' sb := by
  obtain ⟨S', h', o', r'⟩ := hg
  refine ⟨S', h', h.B.keepO o' (fun k hb ha => h.no k ha hb) (fun k hk => (h.A.lst.lo k hk).1) h'.bel, fun k hk hb => ?_⟩
  rcases r' k hk with h1 | h1
  · exact h.no k h1 hb
  · have := (h.B.lst.lo k hb).2; omega
theorem bs_words {W w : World} {pa : Nat} {S : Nat → Prop} {s : Bs} (h : BsAt W w pa S s) (hL : s.L.length < 4294967296) (hM : ∀ nm t, look s.M nm = some t → 0 ≤ t ∧ t < 4294967296) (he : wordsE s.M 0 s.L = 0) {l : List Int} (hl : wordsL s.M 0 s.L = l) :
    Calls Tryz.prog 31 #[.pointer (some ⟨pa, 0, none⟩)] w fun e w' => ∃ v, e = .returned (.tuple #[v, .int .i64 0]) ∧ w'.ownsRow w.heap.size 24 1 v l.length (u32s l) ∧ Below w.heap.size w w' := by
  obtain ⟨sv, am, K, hA, hO, hK⟩ := h.lst.ex
  refine (awords_any w h.tab.tab pa am sv K s.L s.M hA hL hM).mono ?_
  rintro e w' ⟨v, l', rfl, hl', hown, hb⟩
  rw [he] at hl' ⊢
  rw [if_pos rfl, hl] at hl'
  subst hl'
  exact ⟨v, rfl, hown, hb⟩
theorem sreads_drop {w : World} {g cap n c : Nat} {lb ys la : List Int} (h : Reads32 w (.slice (some ⟨g, 0, none⟩) lb.length cap) lb) (hl : lb = ys ++ la) (hn : ys.length = n) : Reads32 w (.slice (some ⟨g, n, none⟩) la.length c) la := by
  obtain ⟨h1, p, c', he, h2⟩ := h
  cases he
  have hlen : lb.length = n + la.length := by rw [hl, List.length_append, hn]
  refine ⟨by omega, _, c, rfl, fun h0 => ⟨g, n, rfl, fun k hk => ?_⟩⟩
  obtain ⟨b, o, hb, h3⟩ := h2 (by omega)
  cases hb
  have := h3 (n + k) (by omega)
  rw [Nat.zero_add] at this
  rw [this, hl, List.getD_eq_getElem?_getD, List.getElem?_append_right (by omega), hn, show n + k - n = k by omega, ← List.getD_eq_getElem?_getD]
theorem infou8s : (Tryz.prog.info? 5).map (fun i => (i.zero, i.size, i.bytes)) = some (some (.int .u8 0), 1, 1) := by kernel_rfl
set_option maxRecDepth 100000 in
set_option maxHeartbeats 8000000 in
theorem walk_SwapWords (w : World) (a many : Nat) (ha : a < 256) (hmany : many < 256) (ht : Tab w) (hbr : Bru w) :
    Calls Tryz.prog 5 #[.int .u8 (a : Int), .int .u8 (many : Int)] w fun e w' => e = .returned (.bool true) ∧ Below w.heap.size w w' := by
  have HT := mhid ht
  have HR := mhid hbr
  clear ht hbr
  obtain ⟨nw, hnw⟩ : ∃ n, n = 2 + a % 31 := ⟨_, rfl⟩
  have h2 : 2 ≤ nw := by omega
  have h32 : nw ≤ 32 := by omega
  have hF := swap_is h2 h32
  have e1 : ((a : Int)).tmod 31 = ((a % 31 : Nat) : Int) := by rw [Int.tmod_eq_emod_of_nonneg (by omega)]; omega
  have e2 : IntKind.i64.wrap ((a % 31 : Nat) : Int) = ((a % 31 : Nat) : Int) := IntWalk.i64_in _ (by omega)
  have e3 : IntKind.i64.wrap (2 + ((a % 31 : Nat) : Int)) = (nw : Int) := by rw [IntWalk.i64_in _ (by omega)]; omega
  have e4 : IntKind.i64.wrap (many : Int) = (many : Int) := IntWalk.i64_in _ (by omega)
  have e5 : IntKind.u8.wrap ((a % 31 : Nat) : Int) = ((a % 31 : Nat) : Int) := IntWalk.u8_in _ (by omega)
  have HF := mhid hF
  have HN := mhid (And.intro h2 h32)
  have HNW := mhid (show (2 : Int) + (a : Int) % 31 = (nw : Int) by omega)
  clear hF h2 h32 hnw
  have mk : ∀ W : World, (Instr.makeSlice 56 (.int .i64 0) (.int .i64 0)).run Tryz.prog W = .ok (.slice (some ⟨W.heap.size, 0, none⟩) 0 0) (W.alloc (.cells (madeCells #[.int .u8 0] 0) 5)) := fun W => run_make_row' (P := Tryz.prog) 56 5 (.int .u8 0) 1 Tryz.underlying56 infou8s rfl .i64 .i64 0 (by omega) (by omega) W
  go_enter Tryz.func5, Tryz.ntmps5
  go_wp2_with fail
  rw [HNW.out]
  clear HNW e1 e2 e3 e5
  refine (new_lst w w (Below.refl _ _)).mono ?_
  rintro e w1 ⟨pa, Sa, rfl, la, hSa, hb1⟩
  have HA := mhid (show BsAt w w1 pa Sa asm0 from ⟨la, TabLo.start HT.out hb1, hb1⟩)
  clear la hSa hb1
  go_wp2_with fail
  refine (new_lst w w1 HA.out.bel).mono ?_
  rintro e w2 ⟨pb, Sb, rfl, lb, hSb, hb2⟩
  have H2 := mhid (show STwo w w2 pa pb Sa Sb asm0 (retts 0) from ⟨HA.out.keepb hb2, ⟨lb, (HA.out.keepb hb2).tab, (HA.out.keepb hb2).bel⟩, fun k h1 h3 => by have := (HA.out.lst.lo k h1).2; have := hSb k h3; omega⟩)
  clear lb hSb hb2 HA
  go_wp2_with fail
  go_loopw [8] (fun i wr => ∃ (k : Nat) (Sb' : Nat → Prop), k ≤ many ∧ i = .int .i64 (k : Int) ∧ Hid (STwo w wr pa pb Sa Sb' asm0 (retts k))) (fun i _ => many - (intOf i).toNat)
  case atStart => exact ⟨0, Sb, by omega, rfl, H2⟩
  case round =>
    clear H2
    obtain ⟨k, Sb', hk, rfl, H2⟩ := hrel
    by_cases hlt : k < many
    · have h1 : (k : Int) < (many : Int) := by omega
      have e6 : IntKind.i64.wrap ((k : Int) + 1) = ((k + 1 : Nat) : Int) := by rw [IntWalk.i64_in _ (by omega)]; omega
      have hp := bs_lit H2.out.B (l := [rettX]) (fun x hx => by rw [List.mem_singleton.1 hx]; exact rettX_ok) (by decide) (by rw [retts_len]; simp; omega) (Below.refl _ wr)
      rw [retts_put] at hp
      have HP := mhid (show Calls Tryz.prog 29 #[.pointer (some ⟨pb, 0, none⟩), .slice (some ⟨wr.heap.size, 0, none⟩) 1 1] (wr.alloc (.cells #[.int .u8 32, .int .u8 0, .int .u8 0, .int .u8 0, .bool false, .int .i32 0] 41)) fun e w' => e = .returned (.int .i64 0) ∧ BsGo w wr pb Sb' (retts (k + 1)) w' from hp)
      clear hp
      go_wp2_with fail
      refine HP.out.mono ?_
      rintro e w3 ⟨rfl, hg⟩
      obtain ⟨Sb3, h3⟩ := H2.out.symm.go hg
      have H3 := mhid h3.symm
      clear h3 hg H2 HP
      go_wp2_with fail
      exact ⟨⟨k + 1, Sb3, by omega, by go_num, H3⟩, by simp only [intOf]; omega⟩
    · obtain rfl : k = many := by omega
      go_wp2_with fail
      refine (swap_any H2.out.A HN.out.1 HN.out.2 (fun x _ => by simp [names, asm0]) (by simp [asm0]) (by simp [asm0])).mono ?_
      rintro e w3 ⟨rfl, hg⟩
      obtain ⟨Sa3, h3⟩ := H2.out.go hg
      have H3 := mhid h3
      clear h3 hg H2
      go_wp2_with fail
      refine (swap_any H3.out.B HN.out.1 HN.out.2 (fun x _ => by simp [names, retts]) (by simp [retts]) (by rw [retts_len]; omega)).mono ?_
      rintro e w4 ⟨rfl, hg⟩
      obtain ⟨Sb4, h4⟩ := H3.out.symm.go hg
      have H4 := mhid h4.symm
      clear h4 hg H3
      go_wp2_with fail
      refine (bs_words H4.out.A (by rw [len_swap]; decide) (fun nm t htt => ?_) HF.out.e HF.out.l).mono ?_
      · unfold look at htt
        rw [Option.map_eq_some_iff] at htt
        obtain ⟨q, hq, rfl⟩ := htt
        have := HF.out.m q (List.mem_of_find?_eq_some hq)
        omega
      rintro e w5 ⟨va, rfl, hoa, hb5⟩
      have H5 := mhid (H4.out.keepb hb5)
      have HRA := mhid (Reads32.of_own hoa)
      clear hoa hb5 H4
      go_wp2_with fail
      refine (bs_words H5.out.B (by rw [len_swap, retts_len]; omega) (retts_marks HF.out (by omega)) (retts_words HF.out k).1 (retts_words HF.out k).2).mono ?_
      rintro e w6 ⟨vb, rfl, hob, hb6⟩
      have HB6 := mhid (H5.out.A.bel.trans (hb6.mono H5.out.A.bel.size))
      have HRA6 := mhid (HRA.out.keepb hb6)
      have HRB := mhid (Reads32.of_own hob)
      have hshape : ∃ g cap, vb = .slice (some ⟨g, 0, none⟩) (k + 101) cap ∧ k + 101 ≤ cap ∧ cap ≤ maxLen := by
        have hl : ((List.replicate k rettX).map encS ++ (swapI nw).map encS).length = k + 101 := by simp [swapI_len]
        rcases hob.2 with h | ⟨g, cap, cur, q1, _, _, q2, q3, _⟩
        · have := h.2; omega
        · rw [hl] at q1 q2; exact ⟨g, cap, q1, q2, q3⟩
      obtain ⟨g, cap, rfl, hc1, hc2⟩ := hshape
      obtain ⟨-, pl, cl, rfl, -⟩ := HRA6.out
      rw [List.length_map, swapI_len] at HRA6 ⊢
      clear hob hb6 H5 HRA
      have HRW := mhid (show Calls Tryz.prog 32 #[.slice (some ⟨w6.heap.size, 0, none⟩) 0 0, .int .u32 0, .int .i64 1] (w6.alloc (.cells (madeCells #[.int .u8 0] 0) 5)) (Tells [] 0 1 (w6.alloc (.cells (madeCells #[.int .u8 0] 0) 5))) from mrwords_any _ 0 w6.heap.size 0 [] (refat_made w6 0 (by decide)) 0 (by decide) (by decide) 1 (by decide))
      have HBA := mhid (HB6.out.alloc HB6.out.size (.cells (madeCells #[.int .u8 0] 0) 5))
      have hba : Below w6.heap.size w6 (w6.alloc (.cells (madeCells #[.int .u8 0] 0) 5)) := (Below.refl _ _).alloc (Nat.le_refl _) _
      have HRA7 := mhid (HRA6.out.keepb hba)
      have HRB7 := mhid (HRB.out.keepb hba)
      have HSP := mhid (show spanE ([] : List Int).length 0 1 4 = 50 from by decide)
      clear hba HRA6 HRB HB6
      go_wp2_with fail
      generalize w6.alloc (.cells (madeCells #[.int .u8 0] 0) 5) = w7 at *
      refine HRW.out.mono ?_
      rintro e w8 ⟨v8, l8, rfl, -, -, hb8⟩
      rw [HSP.out]
      have HB8 := mhid (HBA.out.trans (hb8.mono HBA.out.size))
      have hl : ((List.replicate k rettX).map encS ++ (swapI nw).map encS).length = k + 101 := by simp [swapI_len]
      have hrb := HRB7.out.keepb hb8
      rw [← hl] at hrb
      have hsr := sreads_drop (c := cap - k) hrb rfl (show ((List.replicate k rettX).map encS).length = k by simp)
      rw [List.length_map, swapI_len] at hsr
      have HSM := mhid (same_any w8 _ _ _ _ hsr (HRA7.out.keepb hb8))
      rw [decide_eq_true rfl] at HSM
      clear hb8 hl hrb hsr HRA7 HRB7 HBA HRW HSP mk
      have hs0 : IntKind.i64.wrap (101 + (k : Int)) = (k : Int) + 101 := by rw [IntWalk.i64_in _ (by omega)]; omega
      unfold maxLen at hc2
      have hck : ¬ cap = k := by omega
      go_wp2_with fail
      refine HSM.out.mono ?_
      rintro e w9 ⟨rfl, hb9⟩
      have HB9 := mhid (HB8.out.trans (hb9.mono HB8.out.size))
      clear hb9 HSM HB8
      go_wp2_with fail
      refine (shead_any w9 (HT.out.keep HB9.out) (HR.out.keep HB9.out)).mono ?_
      rintro e w10 ⟨rfl, hb10⟩
      have HB10 := mhid (HB9.out.trans (hb10.mono HB9.out.size))
      clear hb10
      go_wp2_with fail
      first
        | go_ret2
        | go_ret
      exact ⟨rfl, HB10.out⟩
end Go.Proofs.YtajholbcpmjhiaaGreatDoor
