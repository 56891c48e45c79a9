/- The walks of muntinlaw09.head and TickPuts: handlers, and their marks. -/
import Derived.Test.YtgicenbjdadakaaDoorTickAll
namespace Go.Proofs.YtgicenbjdadakaaDoor
open Go.RowKit Go.Maps
set_option linter.unusedVariables false
set_option linter.unusedSimpArgs false
def wordsK (k : Nat) : List Int := [1478524928 + 4 * k, 69304321, 1545633792 + 4 * k, 2147483648]
theorem words_tick (M : List (List UInt8 × Int)) (i : Nat) (k : Nat) (h1 : 1 ≤ k) (h2 : k ≤ 15) : wordsE M i (tickT k) = 0 ∧ wordsL M i (tickT k) = wordsK k := by
  refine ⟨rfl, ?_⟩
  have h : ∀ k, 1 ≤ k → k ≤ 15 → (tickL k).map encS = wordsK k := tick_cases (by decide)
  rw [← h k h1 h2]
  rfl
theorem words_all : wordsE (allM 15) 0 (allL 15) = 0 ∧ (wordsL (allM 15) 0 (allL 15)).length = 60 := by decide
theorem words_part : ∀ k, 1 ≤ k → k ≤ 15 → ((wordsL (allM 15) 0 (allL 15)).drop (4 * (k - 1))).take 4 = wordsK k := tick_cases (by decide)
theorem look_bds (M : List (List UInt8 × Int)) (h : ∀ e ∈ M, 0 ≤ e.2 ∧ e.2 < 4294967296) : ∀ nm t, look M nm = some t → 0 ≤ t ∧ t < 4294967296 := by
  intro nm t ht
  unfold look at ht
  cases hf : M.find? (fun e => e.1 == nm) with
  | none => rw [hf] at ht; cases ht
  | some e => rw [hf] at ht; cases ht; exact h e (List.mem_of_find?_eq_some hf)
theorem allM_bds : ∀ e ∈ allM 15, 0 ≤ e.2 ∧ e.2 < 4294967296 := by decide
theorem any_one : ∀ k, 1 ≤ k → k ≤ 15 → anyT [((tickNm k).data.toList, 0)] = true := tick_cases (by decide)
theorem rwords9_any (k : Nat) (h1 : 1 ≤ k) (h2 : k ≤ 15) (w : World) : Calls Tryd.prog 13 #[.int .i64 k] w fun e w' => ∃ p n c, e = .returned (.slice p n c) ∧ Reads32 w' (.slice p n c) (wordsK k) ∧ Below w.heap.size w w' := by
  have e1 : IntKind.i64.wrap (4 * (k : Int)) = 4 * (k : Int) := IntWalk.i64_in _ (by omega)
  have e2 : IntKind.u32.wrap (4 * (k : Int)) = 4 * (k : Int) := IntWalk.u32_in _ (by omega)
  have e3 : IntKind.u32.wrap (1478524928 + 4 * (k : Int)) = 1478524928 + 4 * (k : Int) := IntWalk.u32_in _ (by omega)
  have e4 : IntKind.u32.wrap (1545633792 + 4 * (k : Int)) = 1545633792 + 4 * (k : Int) := IntWalk.u32_in _ (by omega)
  go_enter Tryd.func13, Tryd.ntmps13
  go_wp2_with fail
  go_ret
  exact ⟨_, _, _, rfl, Reads32.of_own (l := wordsK k) (own_new w 0 #[.int .u32 (1478524928 + 4 * k), .int .u32 69304321, .int .u32 (1545633792 + 4 * k), .int .u32 2147483648] 40 4 1 rfl (by simp [maxLen]) (Nat.zero_le _)), (Below.refl _ _).alloc (Nat.le_refl _) _⟩
set_option maxRecDepth 100000 in
set_option maxHeartbeats 4000000 in
theorem ahead_any9 (w : World) (ht : Tab w) : Calls Tryd.prog 10 #[] w fun e w' => e = .returned (.bool true) ∧ Below w.heap.size w w' := by
  have T0 := ahid ht
  clear ht
  go_enter Tryd.func10, Tryd.ntmps10
  go_wp2_with fail
  refine (new_lst w w (Below.refl _ _)).mono ?_
  rintro e w1 ⟨pa, Sa, rfl, la, ha, hb⟩
  have B := ahid hb
  have A := ahid la
  have T := ahid (TabLo.start T0.out B.out)
  clear hb la ha T0
  go_wp2_with fail
  refine (tick_lst w.heap.size w1 pa Sa [] [] A.out B.out.size T.out (by simp) (by simp [maxLen]) 3 (by omega) (by omega) (by decide)).mono ?_
  rintro e w2 ⟨rfl, S2, l2, o2, s2⟩
  replace T := ahid (T.out.keepO o2 (fun k h => (A.out.lo k h).1))
  replace B := ahid (Only.lower B.out o2 (fun k h => (A.out.lo k h).1))
  replace A := ahid (show Lst w.heap.size w2 pa S2 (tickT 3) [((tickNm 3).data.toList, 0)] from l2)
  clear l2 o2 s2
  go_wp2_with fail
  obtain ⟨sv, m, K, hA, hO, hK⟩ := A.out.ex
  refine (awords_any _ T.out.tab pa m sv K (tickT 3) _ hA (by decide) (look_bds _ (by decide))).mono ?_
  rintro e w3 ⟨va, la, rfl, hva, hova, hb⟩
  rw [(words_tick [((tickNm 3).data.toList, 0)] 0 3 (by omega) (by omega)).1] at hva ⊢
  rw [if_pos rfl, (words_tick [((tickNm 3).data.toList, 0)] 0 3 (by omega) (by omega)).2] at hva
  subst hva
  have Rva := ahid (Reads32.of_own hova)
  obtain ⟨pva, nva, cva, rfl⟩ := Rva.out.shape'
  replace A := ahid (A.out.keepb hb)
  replace T := ahid (T.out.keepb hb)
  replace B := ahid (abt B.out hb)
  clear hA hO hK hova hb
  go_wp2_with fail
  obtain ⟨sv, m, K, hA, hO, hK⟩ := A.out.ex
  have hc := aat_made _ pa m sv K _ _ hA (tickNm 3) (by decide)
  rw [show atN [((tickNm 3).data.toList, (0 : Int))] (tickNm 3) = 0 by decide, show atE [((tickNm 3).data.toList, (0 : Int))] (tickNm 3) = 0 by decide] at hc
  refine hc.mono ?_
  clear hc hA hO hK
  rintro e w' ⟨rfl, rfl⟩
  go_wp2_with fail
  have hS1 := same_any (w3.alloc (.cells #[.int .u32 1478524940, .int .u32 69304321, .int .u32 1545633804, .int .u32 2147483648] 40)) _ _ _ _ (Rva.out.keepb ((Below.refl _ _).alloc (Nat.le_refl _) _)) (Reads32.of_own (l := [1478524940, 69304321, 1545633804, 2147483648]) (own_new w3 0 #[.int .u32 1478524940, .int .u32 69304321, .int .u32 1545633804, .int .u32 2147483648] 40 4 1 rfl (by simp [maxLen]) (Nat.zero_le _)))
  refine hS1.mono ?_
  clear hS1
  rw [decide_eq_true (by decide)]
  rintro e w8 ⟨rfl, hb0⟩
  have hb := abt ((Below.refl w3.heap.size w3).alloc (Nat.le_refl _) _) hb0
  clear hb0
  replace A := ahid (A.out.keepb hb)
  replace T := ahid (T.out.keepb hb)
  replace B := ahid (abt B.out hb)
  clear hb Rva
  go_wp2_with fail
  obtain ⟨sv, m, K, hA, hO, hK⟩ := A.out.ex
  refine (tick_arg w8 pa m sv K _ _ hA (by decide) 16 (by omega)).mono ?_
  rintro e w9 ⟨rfl, hb⟩
  replace A := ahid (A.out.keepb hb)
  replace T := ahid (T.out.keepb hb)
  replace B := ahid (abt B.out hb)
  clear hb hA hO hK
  go_wp2_with fail
  obtain ⟨sv, m, K, hA, hO, hK⟩ := A.out.ex
  refine (tick_old w9 pa m sv K _ _ hA (by decide) (by decide) 3 (by omega) (by omega) (by decide)).mono ?_
  rintro e w10 ⟨rfl, hb⟩
  replace B := ahid (abt B.out hb)
  clear hb hA hO hK A T
  go_wp2_with fail
  refine (name_15 w10).mono ?_
  rintro e w' ⟨rfl, rfl⟩
  go_wp2_with fail
  refine (name_no 0 (by omega) w10).mono ?_
  rintro e w' ⟨rfl, rfl⟩
  go_wp2_with fail
  refine (tick_nil 3 w10).mono ?_
  rintro e w' ⟨rfl, rfl⟩
  go_wp2_with fail
  refine (all_nil w10).mono ?_
  rintro e w11 ⟨rfl, hb⟩
  replace B := ahid (abt B.out hb)
  clear hb
  go_wp2_with fail
  go_ret
  exact ⟨rfl, B.out⟩
theorem reads_sub {w : World} {B : Nat} {p : Option Addr} {n c : Nat} {l : List Int} (h : w.ownsRow B 40 1 (.slice p n c) l.length (u32s l)) {a q : Nat} (ha : a + q ≤ l.length) (hq : 0 < q) : ∃ g, p = some ⟨g, 0, none⟩ ∧ n = l.length ∧ l.length ≤ c ∧ ∀ c', Reads32 w (.slice (some ⟨g, a, none⟩) q c') ((l.drop a).take q) := by
  have hlen : ((l.drop a).take q).length = q := by rw [List.length_take, List.length_drop]; omega
  obtain ⟨hl, p', c2, he, hr⟩ := Reads32.of_own h
  rcases h.2 with ⟨h1, h2⟩ | ⟨g, cap, cur, h1, _, _, hc, _⟩
  · omega
  · cases h1
    refine ⟨g, rfl, rfl, hc, fun c' => ⟨by rw [hlen]; omega, some ⟨g, a, none⟩, c', by rw [hlen], fun _ => ⟨g, a, rfl, fun k hk => ?_⟩⟩⟩
    rw [hlen] at hk
    obtain ⟨b, o, e1, e2⟩ := hr (by omega)
    cases he
    cases e1
    have := e2 (a + k) (by omega)
    rw [Nat.zero_add] at this
    rw [this]
    congr 2
    simp [List.getD_eq_getElem?_getD, List.getElem?_take, hk]
theorem Reads32.keepO {S : Nat → Prop} {a b : World} {v : Value} {l : List Int} (h : Reads32 a v l) (o : Only S a b) (hS : ∀ k, v.ownBlock = some k → ¬ S k) : Reads32 b v l := by
  obtain ⟨h1, p, c, rfl, h2⟩ := h
  refine ⟨h1, p, c, rfl, fun h0 => ?_⟩
  obtain ⟨g, q, rfl, h3⟩ := h2 h0
  exact ⟨g, q, rfl, fun k hk => (o.cell (p := ⟨g, q + k, none⟩) (World.block_lt_of_cell? _ _ (h3 k hk)) (hS g rfl)).trans (h3 k hk)⟩
set_option maxRecDepth 100000 in
set_option maxHeartbeats 4000000 in
/-- Levels that have no handler. -/
theorem puts_no (k : Int) (hk : ¬ (0 < k ∧ k < 16)) (t : Bool) (w : World) (ht : Tab w) :
    Calls Tryd.prog 3 #[.int .i64 k, .bool t] w fun e w' => e = .returned (.bool true) ∧ Below w.heap.size w w' := by
  have T0 := ahid ht
  clear ht
  go_enter Tryd.func3, Tryd.ntmps3
  go_wp2_with fail
  refine (new_lst w w (Below.refl _ _)).mono ?_
  rintro e w1 ⟨pa, Sa, rfl, la, ha, hb⟩
  have B := ahid hb
  have A := ahid la
  have T := ahid (TabLo.start T0.out B.out)
  clear hb la ha T0
  go_wp2_with fail
  refine (new_lst w w1 B.out).mono ?_
  rintro e w2 ⟨pb, Sb, rfl, lb, hbb, hb⟩
  replace A := ahid (A.out.keepb hb)
  replace T := ahid (T.out.keepb hb)
  replace B := ahid (abt B.out hb)
  clear hb lb hbb
  go_wp2_with fail
  refine (name_no k hk w2).mono ?_
  rintro e w' ⟨rfl, rfl⟩
  go_wp2_with fail
  refine (rname_no k hk w2).mono ?_
  rintro e w' ⟨rfl, rfl⟩
  go_wp2_with fail
  obtain ⟨sv, m, K, hA, hO, hK⟩ := A.out.ex
  refine (tick_arg w2 pa m sv K _ _ hA (by simp) k hk).mono ?_
  rintro e w3 ⟨rfl, hb⟩
  replace A := ahid (A.out.keepb hb)
  replace T := ahid (T.out.keepb hb)
  replace B := ahid (abt B.out hb)
  clear hb hA hO hK
  have hor : k < 1 ∨ 15 < k := by omega
  have HK := ahid hk
  have HL : Hid (∃ sv m K, AsmAt w3 pa sv m K [] []) := by
    obtain ⟨sv, m, K, hA, _⟩ := A.out.ex
    exact ahid ⟨sv, m, K, hA⟩
  have HH := ahid (ahead_any9 w3 T.out.tab)
  clear hk A T
  rcases hor with h1 | h1
  · go_wp2_with fail
    obtain ⟨sv, m, K, hA⟩ := HL.out
    refine (alen_made w3 pa m sv K [] [] hA).mono ?_
    rintro e w' ⟨rfl, rfl⟩
    go_wp2_with fail
    refine HH.out.mono ?_
    rintro e w4 ⟨rfl, hb⟩
    go_wp2_with fail
    go_ret
    exact ⟨rfl, abt B.out hb⟩
  · have h2 : ¬ k < 1 := by omega
    go_wp2_with fail
    obtain ⟨sv, m, K, hA⟩ := HL.out
    refine (alen_made w3 pa m sv K [] [] hA).mono ?_
    rintro e w' ⟨rfl, rfl⟩
    go_wp2_with fail
    refine HH.out.mono ?_
    rintro e w4 ⟨rfl, hb⟩
    go_wp2_with fail
    go_ret
    exact ⟨rfl, abt B.out hb⟩
set_option maxRecDepth 100000 in
set_option maxHeartbeats 4000000 in
theorem puts_yes (k : Nat) (k1 : 1 ≤ k) (k2 : k ≤ 15) (t : Bool) (w : World) (ht : Tab w) :
    Calls Tryd.prog 3 #[.int .i64 k, .bool t] w fun e w' => e = .returned (.bool true) ∧ Below w.heap.size w w' := by
  have T0 := ahid ht
  have hsz := tickNm_size k k1 k2
  have hszm : (tickNm k).size ≤ maxLen := by unfold maxLen; omega
  have q1 : ¬ (k : Int) < 1 := by omega
  have q2 : ¬ (15 : Int) < k := by omega
  clear ht
  go_enter Tryd.func3, Tryd.ntmps3
  go_wp2_with fail
  refine (new_lst w w (Below.refl _ _)).mono ?_
  rintro e w1 ⟨pa, Sa, rfl, la, ha, hb⟩
  have B := ahid hb
  have A := ahid la
  have T := ahid (TabLo.start T0.out B.out)
  clear hb la ha T0
  go_wp2_with fail
  refine (new_lst w w1 B.out).mono ?_
  rintro e w2 ⟨pb, Sb, rfl, lb, hbb, hb⟩
  have Dab := ahid (show ∀ k, Sa k → ¬ Sb k from fun k h1 h2 => by have := (A.out.lo k h1).2; have := hbb k h2; omega)
  replace A := ahid (A.out.keepb hb)
  have Bl := ahid lb
  have HSB := ahid (show ∀ k, Sb k → k < w2.heap.size from fun k hk => (lb.lo k hk).2)
  replace T := ahid (T.out.keepb hb)
  replace B := ahid (abt B.out hb)
  clear hb lb hbb
  go_wp2_with fail
  refine (tname_any k k1 k2 w2).mono ?_
  rintro e w' ⟨rfl, rfl⟩
  go_wp2_with fail
  refine (trname_any k k1 k2 w2).mono ?_
  rintro e w3 ⟨rfl, hb⟩
  replace A := ahid (A.out.keepb hb)
  replace Bl := ahid (Bl.out.keepb hb)
  replace T := ahid (T.out.keepb hb)
  replace B := ahid (abt B.out hb)
  have hs23 := hb.size
  clear hb
  go_wp2_with fail
  refine (tick_lst w.heap.size w3 pa Sa [] [] A.out B.out.size T.out (by simp) (by simp [maxLen]) k k1 k2 rfl).mono ?_
  rintro e w4 ⟨rfl, S9, l9, o9, hs9⟩
  have E1 := ahid (dis_step (Dab.out) hs9 (fun k h => (Bl.out.lo k h).2))
  replace Bl := ahid (Bl.out.keep o9 (dis_comm Dab.out))
  replace T := ahid (T.out.keepO o9 (fun k h => (A.out.lo k h).1))
  replace B := ahid (Only.lower B.out o9 (fun k h => (A.out.lo k h).1))
  replace A := ahid (show Lst w.heap.size w4 pa S9 (tickT k) [((tickNm k).data.toList, 0)] from l9)
  replace Dab := ahid E1.out
  have hs34 := o9.size
  clear l9 o9 hs9 E1
  go_wp2_with fail
  obtain ⟨sv, m, K, hA, hO, hK⟩ := A.out.ex
  refine (awords_any _ T.out.tab pa m sv K (tickT k) _ hA (by simp [tickT, tickL]) (look_bds _ (by intro e he; simp only [List.mem_singleton] at he; subst he; exact ⟨by simp, by simp⟩))).mono ?_
  rintro e w5 ⟨va, la, rfl, hva, hova, hb⟩
  rw [(words_tick [((tickNm k).data.toList, 0)] 0 k k1 k2).1] at hva ⊢
  rw [if_pos rfl, (words_tick [((tickNm k).data.toList, 0)] 0 k k1 k2).2] at hva
  subst hva
  have Rva := ahid (Reads32.of_own hova)
  obtain ⟨pva, nva, cva, rfl⟩ := Rva.out.shape'
  have RG := ahid (show ∀ k, (Value.slice pva nva cva).ownBlock = some k → ¬ Sb k from fun k hk hs => by have := (hova.lt k hk).1; have := HSB.out k hs; omega)
  replace Bl := ahid (Bl.out.keepb hb)
  replace T := ahid (T.out.keepb hb)
  replace B := ahid (abt B.out hb)
  clear hA hO hK hova hb A Dab
  go_wp2_with fail
  refine (rwords9_any k k1 k2 w5).mono ?_
  rintro e w6 ⟨pr, nr, cr, rfl, hr, hb⟩
  have Rr := ahid hr
  replace Rva := ahid (Rva.out.keepb hb)
  replace Bl := ahid (Bl.out.keepb hb)
  replace T := ahid (T.out.keepb hb)
  replace B := ahid (abt B.out hb)
  clear hr hb
  go_wp2_with fail
  have hS1 := same_any w6 _ _ _ _ Rva.out Rr.out
  refine hS1.mono ?_
  clear hS1
  rw [decide_eq_true rfl]
  rintro e w7 ⟨rfl, hb⟩
  replace Rva := ahid (Rva.out.keepb hb)
  replace Bl := ahid (Bl.out.keepb hb)
  replace T := ahid (T.out.keepb hb)
  replace B := ahid (abt B.out hb)
  clear hb Rr
  cases t with
  | true =>
    go_wp2_with fail
    refine (trname_any k k1 k2 w7).mono ?_
    rintro e w8 ⟨rfl, hb⟩
    replace Bl := ahid (Bl.out.keepb hb)
    replace T := ahid (T.out.keepb hb)
    replace B := ahid (abt B.out hb)
    clear hb
    go_wp2_with fail
    obtain ⟨sv, m, K, hA, hO, hK⟩ := Bl.out.ex
    refine (amark_step w8 pb m sv K [] [] hA (tickNm k) hszm (by simp [maxLen]) (by simp)).mono ?_
    rintro e w9 ⟨rfl, hst⟩
    obtain ⟨S9, l9, o9, hs9⟩ := Bl.out.to B.out.size hO hK hst
    replace T := ahid (T.out.keepO o9 (fun k h => (Bl.out.lo k h).1))
    replace B := ahid (Only.lower B.out o9 (fun k h => (Bl.out.lo k h).1))
    replace Bl := ahid (show Lst w.heap.size w9 pb S9 [] [((tickNm k).data.toList, 0)] from l9)
    clear hst l9 o9 hs9 hA hO hK
    go_wp2_with fail
    obtain ⟨sv, m, K, hA, hO, hK⟩ := Bl.out.ex
    refine (all_there w9 pb m sv K [] _ hA (by simp) (any_one k k1 k2)).mono ?_
    rintro e w10 ⟨rfl, hb⟩
    replace Bl := ahid (Bl.out.keepb hb)
    replace T := ahid (T.out.keepb hb)
    replace B := ahid (abt B.out hb)
    clear hb hA hO hK
    go_wp2_with fail
    obtain ⟨sv, m, K, hA, hO, hK⟩ := Bl.out.ex
    refine (alen_made w10 pb m sv K [] _ hA).mono ?_
    clear hA hO hK
    rintro e w' ⟨rfl, rfl⟩
    go_wp2_with fail
    refine (ahead_any9 w10 T.out.tab).mono ?_
    rintro e w11 ⟨rfl, hb⟩
    go_wp2_with fail
    go_ret
    exact ⟨rfl, abt B.out hb⟩
  | false =>
    go_wp2_with fail
    refine (all_lst w.heap.size w7 pb Sb Bl.out B.out.size T.out).mono ?_
    rintro e w8 ⟨rfl, S9, l9, o9, hs9⟩
    replace Rva := ahid (Rva.out.keepO o9 RG.out)
    replace T := ahid (T.out.keepO o9 (fun k h => (Bl.out.lo k h).1))
    replace B := ahid (Only.lower B.out o9 (fun k h => (Bl.out.lo k h).1))
    replace Bl := ahid (show Lst w.heap.size w8 pb S9 (allL 15) (allM 15) from l9)
    clear l9 o9 hs9 RG HSB
    go_wp2_with fail
    obtain ⟨sv, m, K, hA, hO, hK⟩ := Bl.out.ex
    refine (awords_any _ T.out.tab pb m sv K (allL 15) (allM 15) hA (by rw [(all_len 15 (by omega)).1]; omega) (look_bds _ allM_bds)).mono ?_
    rintro e w9 ⟨vm, lm, rfl, hvm, hovm, hb⟩
    rw [words_all.1] at hvm ⊢
    rw [if_pos rfl] at hvm
    have h60 : lm.length = 60 := by rw [hvm]; exact words_all.2
    have hpt : (lm.drop (4 * (k - 1))).take 4 = wordsK k := by rw [hvm]; exact words_part k k1 k2
    clear hvm
    obtain ⟨pm, nm, cm, rfl⟩ := (Reads32.of_own hovm).shape'
    obtain ⟨gm, rfl, rfl, hcm, hsub⟩ := reads_sub hovm (a := 4 * (k - 1)) (q := 4) (by omega) (by omega)
    rw [hpt] at hsub
    replace Rva := ahid (Rva.out.keepb hb)
    replace Bl := ahid (Bl.out.keepb hb)
    replace T := ahid (T.out.keepb hb)
    replace B := ahid (abt B.out hb)
    have Rm := ahid hsub
    rw [h60] at hcm ⊢
    clear hA hO hK hovm hb hsub hpt h60
    go_wp2_with fail
    refine (trname_any k k1 k2 w9).mono ?_
    rintro e w10 ⟨rfl, hb⟩
    replace Rm := ahid (fun c' => (Rm.out c').keepb hb)
    replace Rva := ahid (Rva.out.keepb hb)
    replace Bl := ahid (Bl.out.keepb hb)
    replace T := ahid (T.out.keepb hb)
    replace B := ahid (abt B.out hb)
    clear hb
    go_wp2_with fail
    obtain ⟨sv, m, K, hA, hO, hK⟩ := Bl.out.ex
    have hc := aat_made _ pb m sv K _ _ hA (tickNm k) hszm
    have hlk := all_at k k1 k2
    rw [show atN (allM 15) (tickNm k) = ((4 * (k - 1) : Nat) : Int) by unfold atN; rw [hlk]; simp, show atE (allM 15) (tickNm k) = 0 by unfold atE; rw [hlk]; rfl] at hc
    refine hc.mono ?_
    clear hc hA hO hK hlk
    rintro e w' ⟨rfl, rfl⟩
    have e1 : IntKind.i64.wrap ((k : Int) - 1) = ((k - 1 : Nat) : Int) := by rw [IntWalk.i64_in _ (by omega)]; omega
    have e2 : IntKind.i64.wrap (4 * ((k - 1 : Nat) : Int)) = ((4 * (k - 1) : Nat) : Int) := by rw [IntWalk.i64_in _ (by omega)]; omega
    have e3 : IntKind.i64.wrap (((4 * (k - 1) : Nat) : Int) + 4) = ((4 * (k - 1) + 4 : Nat) : Int) := by rw [IntWalk.i64_in _ (by omega)]; omega
    have e4 : ((4 * (k - 1) + 4 : Nat) : Int) ≤ (cm : Int) := by omega
    have e5 : 4 * (k - 1) + 4 - 4 * (k - 1) = 4 := by omega
    have e6 : ¬ (cm = 4 * (k - 1)) := by omega
    generalize 4 * (k - 1) = at4 at *
    go_wp2_with fail
    refine (same_any w10 _ _ _ _ (Rm.out _) Rva.out).mono ?_
    rw [decide_eq_true rfl]
    rintro e w11 ⟨rfl, hb⟩
    replace T := ahid (T.out.keepb hb)
    replace B := ahid (abt B.out hb)
    clear hb
    go_wp2_with fail
    refine (ahead_any9 w11 T.out.tab).mono ?_
    rintro e w12 ⟨rfl, hb⟩
    go_wp2_with fail
    go_ret
    exact ⟨rfl, abt B.out hb⟩
theorem walk_TickPuts (k : Int) (t : Bool) (w : World) (ht : Tab w) : Calls Tryd.prog 3 #[.int .i64 k, .bool t] w fun e w' => e = .returned (.bool true) ∧ Below w.heap.size w w' := by
  by_cases hk : 0 < k ∧ k < 16
  · obtain ⟨n, rfl⟩ := Int.eq_ofNat_of_zero_le (show 0 ≤ k by omega)
    exact puts_yes n (by omega) (by omega) t w ht
  · exact puts_no k hk t w ht
end Go.Proofs.YtgicenbjdadakaaDoor
