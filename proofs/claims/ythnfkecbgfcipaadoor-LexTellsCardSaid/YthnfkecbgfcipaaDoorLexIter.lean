/- The lexer's two iterators: a source's lines, a line's words. -/
import Derived.Test.YthnfkecbgfcipaaDoorLexSmall
import Derived.Test.YthnfkecbgfcipaaDoorLexRGo
import Derived.RangeFuncNested
import Derived.RangeFuncBound
import Derived.RangeFuncCalls
import Derived.RangeFuncLeaves
import Derived.Shelf.Abstract
import Derived.Shelf.RegionOpen
import Derived.OwnWalkIn
import Derived.TacticsInMore
import Derived.LoopNIn
import Derived.LoopIn
import Derived.RegionIn
namespace Go.Proofs.YthnfkecbgfcipaaDoor
open Go.RowKit Go.Shelf
set_option linter.unusedVariables false
set_option linter.unusedSimpArgs false
attribute [local go_sem] Oper.semAt_some
theorem lines_any (s : ByteArray) (w : World) : Calls Tryd.prog 17 #[.string s] w fun e w' => e = .returned (.func (.func 36) #[] #[.pointer (some ⟨w.heap.size, 0, none⟩)]) ∧ w.alloc (.cells #[.string s] 9) = w' := by
  go_enter Tryd.func17, Tryd.ntmps17
  go_wp2
  go_ret
  exact ⟨rfl, rfl⟩
theorem words_any (s : ByteArray) (w : World) : Calls Tryd.prog 18 #[.string s] w fun e w' => e = .returned (.func (.func 38) #[] #[.pointer (some ⟨w.heap.size, 0, none⟩)]) ∧ w.alloc (.cells #[.string s] 9) = w' := by
  go_enter Tryd.func18, Tryd.ntmps18
  go_wp2
  go_ret
  exact ⟨rfl, rfl⟩
theorem data_mk (l : List UInt8) : (⟨l.toArray⟩ : ByteArray).data.toList = l := rfl
/-- What a round that goes on leaves of the iterator's own variable. -/
def KeptAt (b : Nat) (w w' : World) : Prop := (∀ v, w.cell? ⟨b, 0, none⟩ = some v → w'.cell? ⟨b, 0, none⟩ = some v) ∧ (w.frozen? ⟨b, 0, none⟩ = false → w'.frozen? ⟨b, 0, none⟩ = false)
set_option maxRecDepth 100000 in
set_option maxHeartbeats 4000000 in
/-- The lines of a source, one by one. -/
theorem lines_calls (n : Nat) (hn : 1 ≤ n) (l b : Nat) (src : List UInt8) (hsz : src.length < 4294967281) (J : Nat → World → Prop) (Jx : World → Prop)
    (hJd : ∀ k W m, J k W → J k (W.drewN m)) (hJs : ∀ k W v, J k W → J k (W.setCell ⟨b, 0, none⟩ v)) (hJW : ∀ k W, J k W → LexW W)
    (hY : ∀ k x W1, J k W1 → (linesS src)[k]? = some x → YieldAt Fence.wide (n - 1) Tryd.prog l #[.int .i64 ((k : Int) + 1), .string ⟨x.toArray⟩] W1 fun e W' =>
      (e = .returned (.bool true) ∧ J (k + 1) W' ∧ KeptAt b W1 W') ∨ (e = .returned (.bool false) ∧ Jx W'))
    (W : World) (hc : W.cell? ⟨b, 0, none⟩ = some (.string ⟨src.toArray⟩)) (hf : W.frozen? ⟨b, 0, none⟩ = false) (h0 : J 0 W) :
    CallsIn Fence.wide n Tryd.prog 36 #[.func (.yield l) #[] #[], .pointer (some ⟨b, 0, none⟩)] W fun e W' => (∃ v, e = .returned v) ∧ (J (linesS src).length W' ∨ Jx W') := by
  refine callsIn_of_wp Tryd.func36 rfl trivial ?_ rfl
  simp only [Tryd.ntmps36, List.size_toArray, List.length_cons, List.length_nil, Nat.reduceAdd, Nat.reduceSub, Array.replicate_succ, Array.replicate_zero, List.push_toArray, List.append_toArray, List.nil_append, List.cons_append]
  gi_wp2
  gi_loopw [3] (fun i wr => ∃ (k : Nat) (r : List UInt8), i = .int .i64 ((k : Int) + 1) ∧ r.length + k ≤ src.length ∧ linesS src = (linesS src).take k ++ linesS r ∧ ((linesS src).take k).length = k ∧ wr.cell? ⟨b, 0, none⟩ = some (.string ⟨r.toArray⟩) ∧ wr.frozen? ⟨b, 0, none⟩ = false ∧ J k wr) (fun i _ => src.length + 1 - (intOf i).toNat)
  case atStart => exact ⟨0, src, rfl, by omega, by simp, by simp, hc, hf, h0⟩
  case round =>
    obtain ⟨k, r, rfl, hlen, hls, hlk, hcr, hfr, hJ⟩ := hrel
    cases r with
    | nil =>
      gi_wp2
      go_end0
      refine ⟨⟨_, rfl⟩, .inl ?_⟩
      have e : (linesS src).length = k := by rw [hls]; simp [linesS, hlk]
      rw [e]; exact hJ
    | cons c r =>
      obtain ⟨h1, h2, h3⟩ := lines_cut (c :: r) (by simp)
      have HC := shid (cut_any ⟨(c :: r).toArray⟩ wr (by simp [ByteArray.size] at hlen ⊢; omega) (hJW k wr hJ))
      generalize hx : (Lib.cut (c :: r) [10]).1 = x at h1 h2 h3
      generalize hz : (Lib.cut (c :: r) [10]).2.1 = z at h1 h2 h3
      generalize hb : (Lib.cut (c :: r) [10]).2.2 = q
      have HC2 := shid (by have h := HC.out; rw [data_mk, hx, hz, hb] at h; exact h)
      clear HC hx hz hb
      have hget : (linesS src)[k]? = some x := by
        rw [hls, List.getElem?_append_right (by omega), hlk, Nat.sub_self, h1]; rfl
      have hls2 : linesS src = (linesS src).take (k + 1) ++ linesS z := by
        have e : (linesS src).take (k + 1) = (linesS src).take k ++ [x] := by rw [List.take_add_one, hget]; rfl
        rw [e, List.append_assoc]
        show _ = _ ++ (x :: linesS z)
        rw [← h1]; exact hls
      have hlk2 : ((linesS src).take (k + 1)).length = k + 1 := by
        rw [List.take_add_one, hget, List.length_append, hlk]; rfl
      have hlen2 : z.length + (k + 1) ≤ src.length := by omega
      have HK := shid (And.intro hls2 (And.intro hlk2 hlen2))
      have HG := shid hget
      have HJ := shid hJ
      have hne : ((⟨(c :: r).toArray⟩ : ByteArray).toList == []) = false := by rw [ByteArray.toList_eq]; rfl
      clear hls hlk hlen hls2 hlk2 hlen2 hget hJ h1 h2 h3
      gi_wp2_with (refine ⟨trivial, ?_⟩; gi_at_call 37; refine (callsIn_wide.2 HC2.out).mono ?_; rintro e w1 ⟨rfl, m, rfl⟩)
      obtain ⟨fn, tmps, assign, body, hy0, hR⟩ := hY k x (wr.drewN m) (hJd _ _ _ HJ.out) HG.out
      rw [show Sem.run Tryd.prog (Instr.yield l #[.int .i64 ((k : Int) + 1), .string ⟨x.toArray⟩]) (wr.drewN m) = .ok (Next.round l fn tmps assign body) (wr.drewN m) from hy0]
      have hcd : (wr.drewN m).cell? ⟨b, 0, none⟩ = some (.string ⟨(c :: r).toArray⟩) := hcr
      have hfd : (wr.drewN m).frozen? ⟨b, 0, none⟩ = false := hfr
      clear hy0
      gi_wp2
      refine hR.mono ?_
      rintro e W3 (⟨rfl, hJ3, hk3⟩ | ⟨rfl, hJx3⟩)
      · have hc3 := hk3.1 _ hcd
        have hf3 := hk3.2 hfd
        have hw : wrap64 ((k : Int) + 1 + 1) = (k : Int) + 1 + 1 := by have := HK.out.2.2; unfold wrap64; omega
        gi_wp2
        go_roundw
        case rel =>
          obtain ⟨h1, h2, h3⟩ := HK.out
          exact ⟨k + 1, z, by simp [hw], h3, h1, h2, World.cell?_setCell_same' _ _ _ (by rw [hc3]; rfl), by rw [World.frozen?_setCell]; exact hf3, hJs _ _ _ hJ3⟩
        case measure =>
          obtain ⟨h1, h2, h3⟩ := HK.out
          have e1 : (intOf (.int .i64 ((k : Int) + 1))).toNat = k + 1 := by simp [intOf]
          have e2 : (intOf (.int .i64 ((k : Int) + 1 + 1))).toNat = k + 2 := by simp [intOf]; omega
          clear hsz
          simp only [Array.getD_eq_getD_getElem?, hw] at *
          show src.length + 1 - (intOf (.int .i64 ((k : Int) + 1 + 1))).toNat < src.length + 1 - (intOf (.int .i64 ((k : Int) + 1))).toNat
          rw [e1, e2]
          omega
      · gi_wp2
        refine bodyPost_ret (results_none rfl _ _ _) rfl ?_
        exact ⟨⟨_, rfl⟩, .inr hJx3⟩
theorem ba_index (l : List UInt8) (i : Nat) (h : i < (⟨l.toArray⟩ : ByteArray).size) : (⟨l.toArray⟩ : ByteArray)[i] = l[i]'(by simpa [ByteArray.size] using h) := rfl
theorem ba_slice (l : List UInt8) (a b : Nat) : (⟨l.toArray⟩ : ByteArray).extract a b = ⟨((l.drop a).take (b - a)).toArray⟩ := by
  apply ByteArray.ext
  rw [ByteArray.data_extract]
  simp
set_option maxRecDepth 100000 in
set_option maxHeartbeats 4000000 in
/-- The words of a line, one by one. -/
theorem words_calls (n : Nat) (hn : 2 ≤ n) (l b : Nat) (line : List UInt8) (hsz : line.length < 4294967281) (J : List (Nat × List UInt8) → World → Prop) (Jx : World → Prop)
    (hY : ∀ pre x W1, J pre W1 → (pre ++ [x]) <+: wordsS 0 line → YieldAt Fence.wide (n - 1) Tryd.prog l #[.agg #[.string ⟨x.2.toArray⟩, .int .i64 (x.1 : Nat)]] W1 fun e W' =>
      (e = .returned (.bool true) ∧ J (pre ++ [x]) W' ∧ KeptAt b W1 W') ∨ (e = .returned (.bool false) ∧ Jx W'))
    (W : World) (hcW : W.cell? ⟨b, 0, none⟩ = some (.string ⟨line.toArray⟩)) (h0 : J [] W) :
    CallsIn Fence.wide n Tryd.prog 38 #[.func (.yield l) #[] #[], .pointer (some ⟨b, 0, none⟩)] W fun e W' => (∃ v, e = .returned v) ∧ (J (wordsS 0 line) W' ∨ Jx W') := by
  refine callsIn_of_wp Tryd.func38 rfl trivial ?_ rfl
  simp only [Tryd.ntmps38, List.size_toArray, List.length_cons, List.length_nil, Nat.reduceAdd, Nat.reduceSub, Array.replicate_succ, Array.replicate_zero, List.push_toArray, List.append_toArray, List.nil_append, List.cons_append]
  gi_wp2
  gi_loopw [3] (fun i wr => ∃ (k : Nat) (pre : List (Nat × List UInt8)), i = .int .i64 (k : Int) ∧ k ≤ line.length ∧ wordsS 0 line = pre ++ wordsS k (line.drop k) ∧ wr.cell? ⟨b, 0, none⟩ = some (.string ⟨line.toArray⟩) ∧ J pre wr) (fun i _ => line.length - (intOf i).toNat)
  case atStart => exact ⟨0, [], rfl, by omega, by simp, hcW, h0⟩
  case round =>
    obtain ⟨k, pre, rfl, hk, hws, hcr, hJ⟩ := hrel
    by_cases hlt : k < line.length
    case neg =>
      have hge : decide ((k : Int) < line.length) = false := decide_eq_false (by omega)
      have hge2 : decide (k < line.length) = false := decide_eq_false hlt
      gi_wp2
      go_end0
      refine ⟨⟨_, rfl⟩, .inl ?_⟩
      have e : wordsS 0 line = pre := by rw [hws, List.drop_eq_nil_of_le (by omega)]; simp [wordsS]
      rw [e]; exact hJ
    have hlt1 : decide ((k : Int) < line.length) = true := decide_eq_true (by omega)
    have hlt2 : decide (k < line.length) = true := decide_eq_true hlt
    have HWS := shid hws
    have HJ := shid hJ
    clear hws hJ
    obtain ⟨W1, rfl⟩ : ∃ W1, W1 = wr := ⟨_, rfl⟩
    gi_wp2
    gi_loopw [3] (fun i wr => ∃ j : Nat, i = .int .i64 (j : Int) ∧ k ≤ j ∧ j ≤ line.length ∧ (∀ c ∈ (line.drop k).take (j - k), nonw c = true) ∧ wr = W1) (fun i _ => line.length - (intOf i).toNat)
    case atStart => exact ⟨k, rfl, Nat.le_refl _, by omega, by simp, rfl⟩
    case round =>
      obtain ⟨j, rfl, hkj, hjl, hall, rfl⟩ := hrel
      have hcases : (∃ h : j < line.length, nonw line[j] = true) ∨ (ends (line.drop j) ∧ ((¬ j < line.length) ∨ ∃ h : j < line.length, whiteP (line[j].toNat : Int))) := by
        by_cases h : j < line.length
        · cases hw : nonw line[j] with
          | true => exact .inl ⟨h, hw⟩
          | false => exact .inr ⟨.inr ⟨line[j], line.drop (j + 1), List.drop_eq_getElem_cons h, hw⟩, .inr ⟨h, by simpa [nonw] using hw⟩⟩
        · exact .inr ⟨.inl (List.drop_eq_nil_of_le (by omega)), .inl h⟩
      rcases hcases with ⟨h, hw⟩ | ⟨hend, hst⟩
      · have d1 : decide ((j : Int) < line.length) = true := decide_eq_true (by omega)
        have d2 : decide (j < line.length) = true := decide_eq_true h
        have HWC := shid (show Calls Tryd.prog 39 #[.int .u8 (((⟨line.toArray⟩ : ByteArray)[j]'(by simpa [ByteArray.size] using h)).toNat : Int)] wr fun e w' => e = .returned (.bool false) ∧ wr = w' by have h1 := white_any (line[j].toNat : Int) wr; rw [decide_eq_false (show ¬ whiteP (line[j].toNat : Int) by simpa [nonw] using hw)] at h1; exact h1)
        have hw64 : wrap64 ((j : Int) + 1) = (j : Int) + 1 := by unfold wrap64; omega
        have HA := shid (show ∀ c ∈ (line.drop k).take (j + 1 - k), nonw c = true by
          rw [show j + 1 - k = (j - k) + 1 by omega, List.take_add_one, List.getElem?_drop, show k + (j - k) = j by omega, List.getElem?_eq_getElem h]
          intro c hc
          rcases List.mem_append.1 hc with hc | hc
          · exact hall c hc
          · simp at hc; subst hc; exact hw)
        clear hall hw
        gi_wp2_with fail
        refine ⟨trivial, fun _ => by omega, ?_⟩
        refine (callsIn_wide.2 HWC.out).mono ?_
        rintro e w1 ⟨rfl, rfl⟩
        gi_wp2_with fail
        go_roundw
        case rel => exact ⟨j + 1, by simp [hw64], by omega, by omega, HA.out, trivial⟩
        case measure =>
          clear hsz
          simp [intOf, hw64]
          omega
      · have d1 : (decide ((j : Int) < line.length) = false ∧ decide (j < line.length) = false) ∨ (∃ h : j < line.length, decide ((j : Int) < line.length) = true ∧ decide (j < line.length) = true ∧ Hid (Calls Tryd.prog 39 #[.int .u8 (((⟨line.toArray⟩ : ByteArray)[j]'(by simpa [ByteArray.size] using h)).toNat : Int)] wr fun e w' => e = .returned (.bool true) ∧ wr = w')) := by
          rcases hst with h | ⟨h, hw⟩
          · exact .inl ⟨decide_eq_false (by omega), decide_eq_false h⟩
          · exact .inr ⟨h, decide_eq_true (by omega), decide_eq_true h, shid (by have h1 := white_any (line[j].toNat : Int) wr; rw [decide_eq_true hw] at h1; exact h1)⟩
        have hsplit : line.drop k = (line.drop k).take (j - k) ++ line.drop j := by
          have h1 := List.take_append_drop (j - k) (line.drop k)
          rw [List.drop_drop, show k + (j - k) = j by omega] at h1
          exact h1.symm
        have hlenw : ((line.drop k).take (j - k)).length = j - k := by rw [List.length_take, List.length_drop]; omega
        have hsub : (⟨line.toArray⟩ : ByteArray).extract k j = ⟨((line.drop k).take (j - k)).toArray⟩ := ba_slice _ _ _
        by_cases hjk : k < j
        · have d3 : decide ((k : Int) < (j : Int)) = true := decide_eq_true (by omega)
          have d4 : decide (k < j) = true := decide_eq_true hjk
          have d5 : ((j : Int) == (k : Int)) = false := by rw [beq_eq_false_iff_ne]; omega
          have d6 : (j == k) = false := by rw [beq_eq_false_iff_ne]; omega
          have HWD := shid (show wordsS 0 line = pre ++ (k, (line.drop k).take (j - k)) :: wordsS j (line.drop j) by
            rw [HWS.out]
            have h1 := wordsS_word ((line.drop k).take (j - k)) k (line.drop j) (by intro e; rw [e] at hlenw; simp at hlenw; omega) hall hend
            rw [← hsplit, hlenw, show k + (j - k) = j by omega] at h1
            rw [h1])
          have HPL := shid (show (pre ++ [(k, (line.drop k).take (j - k))]) <+: wordsS 0 line from ⟨wordsS j (line.drop j), by rw [HWD.out]; simp⟩)
          have HSUB := shid hsub
          clear hsplit hlenw hsub hall hend hst
          rcases d1 with ⟨e1, e2⟩ | ⟨hjl2, e1, e2, HWC⟩
          · gi_wp2_with fail
            refine ⟨trivial, ?_⟩
            gi_wp2_with fail
            obtain ⟨fn, tmps, assign, body, hy0, hR⟩ := hY pre (k, (line.drop k).take (j - k)) wr HJ.out HPL.out
            rw [HSUB.out, show Sem.run Tryd.prog (Instr.yield l #[.agg #[.string ⟨((line.drop k).take (j - k)).toArray⟩, .int .i64 (k : Int)]]) wr = .ok (Next.round l fn tmps assign body) wr from hy0]
            clear hy0
            gi_wp2
            refine ⟨fun _ => by omega, hR.mono ?_⟩
            rintro e W3 (⟨rfl, hJ3, hk3⟩ | ⟨rfl, hJx3⟩)
            · have hc3 := hk3.1 _ hcr
              gi_wp2
              go_roundw
              case rel => exact ⟨j, _, rfl, hjl, by rw [HWD.out]; simp, hc3, hJ3⟩
              case measure =>
                clear hsz
                simp [intOf]
                omega
            · gi_wp2
              refine bodyPost_ret (results_none rfl _ _ _) rfl ?_
              exact ⟨⟨_, rfl⟩, .inr hJx3⟩
          · gi_wp2_with fail
            refine ⟨trivial, fun _ => by omega, ?_⟩
            refine (callsIn_wide.2 HWC.out).mono ?_
            rintro e w1 ⟨rfl, rfl⟩
            gi_wp2_with fail
            obtain ⟨fn, tmps, assign, body, hy0, hR⟩ := hY pre (k, (line.drop k).take (j - k)) wr HJ.out HPL.out
            rw [HSUB.out, show Sem.run Tryd.prog (Instr.yield l #[.agg #[.string ⟨((line.drop k).take (j - k)).toArray⟩, .int .i64 (k : Int)]]) wr = .ok (Next.round l fn tmps assign body) wr from hy0]
            clear hy0
            gi_wp2
            refine ⟨fun _ => by omega, hR.mono ?_⟩
            rintro e W3 (⟨rfl, hJ3, hk3⟩ | ⟨rfl, hJx3⟩)
            · have hc3 := hk3.1 _ hcr
              gi_wp2
              go_roundw
              case rel => exact ⟨j, _, rfl, hjl, by rw [HWD.out]; simp, hc3, hJ3⟩
              case measure =>
                clear hsz
                simp [intOf]
                omega
            · gi_wp2
              refine bodyPost_ret (results_none rfl _ _ _) rfl ?_
              exact ⟨⟨_, rfl⟩, .inr hJx3⟩
        · obtain rfl : j = k := by omega
          have hjl3 : j < line.length := hlt
          rcases d1 with ⟨e1, e2⟩ | ⟨hjl2, e1, e2, HWC⟩
          · have := of_decide_eq_false e2; omega
          have hwk : nonw line[j] = false := by
            rcases hend with h | ⟨c, r', h, hc⟩
            · rw [List.drop_eq_nil_iff] at h; omega
            · rw [List.drop_eq_getElem_cons hjl3] at h
              cases h; exact hc
          have HWD := shid (show wordsS 0 line = pre ++ wordsS (j + 1) (line.drop (j + 1)) by
            rw [HWS.out, List.drop_eq_getElem_cons hjl3, wordsS_white _ _ _ hwk])
          have hw64 : wrap64 ((j : Int) + 1) = (j : Int) + 1 := by unfold wrap64; omega
          have d3 : decide ((j : Int) < (j : Int)) = false := decide_eq_false (by omega)
          clear hsplit hlenw hsub hall hend hst hwk HWS hkj hjk
          gi_wp2_with fail
          refine ⟨trivial, fun _ => by omega, ?_⟩
          refine (callsIn_wide.2 HWC.out).mono ?_
          rintro e w1 ⟨rfl, rfl⟩
          gi_wp2_with fail
          refine ⟨fun _ h => (by cases h), ?_⟩
          gi_wp2_with fail
          go_roundw
          case rel => exact ⟨j + 1, pre, by simp [hw64], by omega, HWD.out, hcr, HJ.out⟩
          case measure =>
            clear hsz
            simp [intOf, hw64]
            omega
end Go.Proofs.YthnfkecbgfcipaaDoor
