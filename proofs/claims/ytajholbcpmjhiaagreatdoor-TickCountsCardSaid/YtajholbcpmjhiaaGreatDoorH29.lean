/- Several texts in one: TickMade, TickHead, WindRunsLaw, TickCountsLaw, TickTwo. -/
import Derived.Test.YtajholbcpmjhiaaGreatDoorH27
import Derived.Test.YtajholbcpmjhiaaGreatDoorH28
set_option linter.unusedVariables false
set_option linter.unusedSimpArgs false
/- The walk of muntinlaw09.made. -/
namespace Go.Proofs.YtajholbcpmjhiaaGreatDoor
open Go.RowKit
theorem mrow_u32s9 {w0 w : World} {G : MG} {M : Nat} {m : Mx} {v : Value} {l : List Int} (h : MRow w G v l) (hm : MIs w0 w G M m) (hw : Words l) : U32s (· = G.gB) w v l := by
  obtain ⟨b, o, p, c, rfl, hl, hp, hc⟩ := h.1.shape
  refine ⟨hw, p, c, rfl, fun h0 => ?_⟩
  obtain rfl := hp h0
  refine ⟨b, o, rfl, fun e => ?_, World.block_lt_of_cell? _ _ (hc 0 h0), fun k hk => hc k hk⟩
  have hb : b = G.gB := e
  have := (h.2 b rfl).1
  rw [hb, hm.at'.rg] at this
  simp at this
set_option maxRecDepth 100000 in
set_option maxHeartbeats 8000000 in
theorem tmade_any (w : World) (ht : Tab w) (hbr : Bru w) (pil : Int) (hp : 0 ≤ pil ∧ pil ≤ 15) :
    Calls Tryz.prog 44 #[.int .u8 pil] w fun e w' => ∃ M G m, e = .returned (.pointer (some ⟨M, 0, none⟩)) ∧ MIs w w' G M m ∧ Made9 pil m := by
  have HT := mhid ht
  have HBR := mhid hbr
  have HPL := mhid hp
  clear ht hbr hp
  go_enter Tryz.func44, Tryz.ntmps44
  go_wp2_with fail
  refine (mw_new 2 2048 w w (Below.refl _ _) (by decide) (by decide) (by decide) (by decide)).mono ?_
  rintro e W2 ⟨M, G, rfl, hM, hGn, hb2⟩
  have HM2 := mhid hM
  have HB2 := mhid hb2
  clear hM hb2
  go_wp2_with fail
  refine (new_lst W2 W2 (Below.refl _ _)).mono ?_
  rintro e W3 ⟨pa, S0, rfl, hl, hS0, hb3⟩
  have H0 := mhid (show BsAt W2 W3 pa S0 asm0 from ⟨hl, TabLo.start (HT.out.keep HB2.out) hb3, hb3⟩)
  have HM3 := mhid (HM2.out.keepb hb3)
  clear hl hb3 hS0
  go_wp2_with fail
  have HF := mhid tick_is
  have hGlt : ∀ k, G.R k ≠ .none → k < W2.heap.size := fun k hk => HM2.out.at'.lt k hk
  have HGL := mhid (And.intro hGlt HB2.out.size)
  clear hGlt
  refine (ticks_any H0.out (fun k _ _ => rfl) (by decide) (by decide)).mono ?_
  rintro e W5 ⟨rfl, S1, h1, o1, r1⟩
  have HM5 := mhid (HM3.out.far o1 (fun k hk => (H0.out.lst.lo k hk).1) HGL.out.1 HGL.out.2)
  have H2 := mhid (show BsAt W2 W5 pa S1 (asm0.ticks 15) from h1)
  clear h1 o1 r1 H0 HM2 HM3
  go_wp2_with fail
  obtain ⟨sv, am, K, hA, hO, hK⟩ := H2.out.lst.ex
  have HA := mhid hA
  clear hA hO hK
  refine (awords_any W5 H2.out.tab.tab pa am sv K (asm0.ticks 15).L (asm0.ticks 15).M HA.out (by rw [(ticks_len asm0 15).1]; decide) (fun nm t ht => ?_)).mono ?_
  · unfold look at ht
    rw [Option.map_eq_some_iff] at ht
    obtain ⟨q, hq, rfl⟩ := ht
    have := HF.out.m q (List.mem_of_find?_eq_some hq)
    omega
  rintro e W6 ⟨v, l, rfl, hl, hown, hb6⟩
  rw [HF.out.e] at hl ⊢
  rw [if_pos rfl, HF.out.l] at hl
  have HM6 := mhid (HM5.out.keepb hb6)
  have hll : l.length = 60 := by rw [hl, List.length_map]; exact tickI_len
  have hww : Words l := by rw [hl]; exact encs_words tickI_ok
  have HROW := mhid hown
  obtain ⟨-, pl, cl, rfl, -⟩ := Reads32.of_own hown
  have hW5 : W2.heap.size ≤ W5.heap.size := H2.out.bel.size
  have WR0 := mhid (show MRow W6 G (.slice pl l.length cl) l from ⟨Reads32.of_own HROW.out, fun k hk => by
    have h1 := own_range HROW.out k hk
    exact ⟨by
      by_cases e : G.R k = .none
      · exact e
      · have := HGL.out.1 k e; omega, h1.2⟩⟩)
  have HLW := mhid (And.intro hl hww)
  have HPU := mhid (mw_put w W6 G M _ HM6.out 768 (by decide) (by decide) (.slice pl l.length cl) l (by rw [hll]; decide) (mrow_u32s9 WR0.out HM6.out hww))
  rw [hll] at HPU ⊢
  clear hl hww hown hb6 HM5 HA H2 HROW WR0 hW5 HGL hGn hll
  go_wp2_with fail
  refine (mmem_any W6 G M _ HM6.out.at').mono ?_
  rintro e w' ⟨rfl, rfl⟩
  go_wp2_with fail
  refine HPU.out.mono ?_
  rintro e w7 ⟨rfl, hto⟩
  obtain ⟨G7, hW7, -⟩ := hto
  have hmem0 : MemP (putV (newM 2 2048).mem 768 l) 1 0 := by rw [HLW.out.1]; exact MemP.start
  have HMI := mhid hW7
  have HPP := mhid (show MemP ({ newM 2 2048 with mem := putV (newM 2 2048).mem 768 l } : Mx).mem 1 0 ∧ ({ newM 2 2048 with mem := putV (newM 2 2048).mem 768 l } : Mx).f = Fx.new 2 ∧ ({ newM 2 2048 with mem := putV (newM 2 2048).mem 768 l } : Mx).kind = 0 ∧ ({ newM 2 2048 with mem := putV (newM 2 2048).mem 768 l } : Mx).out = [] from ⟨hmem0, rfl, rfl, rfl⟩)
  have HV0 := mhid (show ({ newM 2 2048 with mem := putV (newM 2 2048).mem 768 l } : Mx).mem = vecD (1 - 1) from by rw [HLW.out.1]; exact vecD_zero.symm)
  clear hW7 hmem0 HPU HM6 HLW
  generalize ({ newM 2 2048 with mem := putV (newM 2 2048).mem 768 l } : Mx) = m7 at *
  go_wp2_with fail
  go_loopw [8] (fun i wr => ∃ (k : Nat) (G : MG) (m : Mx), 1 ≤ k ∧ k ≤ 16 ∧ i = .int .i64 (k : Int) ∧ Hid (MIs w wr G M m) ∧ Hid (MemP m.mem k 0 ∧ m.f = Fx.new 2 ∧ m.kind = 0 ∧ m.out = []) ∧ Hid (m.mem = vecD (k - 1))) (fun i _ => 16 - (intOf i).toNat)
  case atStart => exact ⟨1, _, _, by decide, by decide, rfl, HMI, HPP, HV0⟩
  case round =>
    clear HMI HPP HV0
    obtain ⟨k, G, m, h1, h16, rfl, HM, HP, HV⟩ := hrel
    have e1 : IntKind.i64.wrap ((k : Int) + 1) = ((k + 1 : Nat) : Int) := by rw [IntWalk.i64_in _ (by omega)]; omega
    by_cases hlt : k < 16
    · have h1' : (k : Int) < 16 := by omega
      have HK := mhid (And.intro h1 hlt)
      have he1 := encS_bd jumpT_ok.1
      go_wp2_with fail
      rw [show (768 + 16 * ((k : Int) - 1) - (512 + 16 * (k : Int))) / 4 = 60 by omega]
      refine (renc_any jumpT jumpT_ok.1 wr).mono ?_
      rintro e w8 ⟨rfl, hb8⟩
      have HM8 := mhid (HM.out.keepb hb8)
      clear hb8 HM
      go_wp2_with fail
      refine (mmem_any w8 G M m HM8.out.at').mono ?_
      rintro e w' ⟨rfl, rfl⟩
      go_wp2_with fail
      refine (mw_store w w8 G M m HM8.out (512 + 16 * (k : Int)) (encS jumpT) (by omega) he1).mono ?_
      rintro e w10 ⟨rfl, G10, hM10, -⟩
      have HM10 := mhid hM10
      have HP10 := mhid (show MemP ({ m with mem := storeV m.mem (512 + 16 * (k : Int)) 4 (encS jumpT) } : Mx).mem (k + 1) 0 ∧ ({ m with mem := storeV m.mem (512 + 16 * (k : Int)) 4 (encS jumpT) } : Mx).f = Fx.new 2 ∧ ({ m with mem := storeV m.mem (512 + 16 * (k : Int)) 4 (encS jumpT) } : Mx).kind = 0 ∧ ({ m with mem := storeV m.mem (512 + 16 * (k : Int)) 4 (encS jumpT) } : Mx).out = [] from ⟨by
        have := HP.out.1.vecS HK.out.1 HK.out.2
        rw [show ((512 + 16 * k : Nat) : Int) = 512 + 16 * (k : Int) by omega] at this
        exact this, HP.out.2.1, HP.out.2.2.1, HP.out.2.2.2⟩)
      have HV10 := mhid (show ({ m with mem := storeV m.mem (512 + 16 * (k : Int)) 4 (encS jumpT) } : Mx).mem = vecD (k + 1 - 1) from by
        obtain ⟨j, rfl⟩ : ∃ j, k = j + 1 := ⟨k - 1, by have := HK.out.1; omega⟩
        rw [Nat.add_sub_cancel, vecD_succ, ← show m.mem = vecD j from HV.out, show ((512 + 16 * (j + 1) : Nat) : Int) = 512 + 16 * ((j + 1 : Nat) : Int) by omega])
      clear hM10 HM8 HP he1 HV
      generalize ({ m with mem := storeV m.mem (512 + 16 * (k : Int)) 4 (encS jumpT) } : Mx) = m10 at *
      go_wp2_with fail
      exact ⟨⟨k + 1, G10, m10, by omega, by omega, by go_num, HM10, HP10, HV10⟩, by simp [intOf] <;> omega⟩
    · obtain rfl : k = 16 := by omega
      clear e1 h1 h16 hlt
      have he2 := encS_bd addOne_ok.1
      have HE2 := mhid he2
      go_wp2_with fail
      refine (renc_any addOne addOne_ok.1 wr).mono ?_
      rintro e w8 ⟨rfl, hb8⟩
      have HM8 := mhid (HM.out.keepb hb8)
      clear hb8 HM
      go_wp2_with fail
      go_loopw [14] (fun i wr => ∃ (n : Nat) (G : MG) (m : Mx), n ≤ 128 ∧ i = .int .i64 ((1536 + 4 * n : Nat) : Int) ∧ Hid (MIs w wr G M m) ∧ Hid (MemP m.mem 16 n ∧ m.f = Fx.new 2 ∧ m.kind = 0 ∧ m.out = []) ∧ Hid (m.mem = mainD n)) (fun i _ => 2048 - (intOf i).toNat)
      case atStart => exact ⟨0, _, _, by decide, rfl, HM8, HP, mhid (HV.out.trans mainD_zero.symm)⟩
      case round =>
        clear HM8 HP HV
        obtain ⟨n, G, m, hn, rfl, HM, HP, HV⟩ := hrel
        have e1 : IntKind.i64.wrap (((1536 + 4 * n : Nat) : Int) + 4) = ((1536 + 4 * (n + 1) : Nat) : Int) := by rw [IntWalk.i64_in _ (by omega)]; omega
        by_cases hlt : n < 128
        · have h1' : ((1536 + 4 * n : Nat) : Int) < 2048 := by omega
          go_wp2_with fail
          refine (mmem_any wr G M m HM.out.at').mono ?_
          rintro e w' ⟨rfl, rfl⟩
          go_wp2_with fail
          refine (mw_store w wr G M m HM.out (1536 + 4 * (n : Int)) (encS addOne) (by omega) HE2.out).mono ?_
          rintro e w10 ⟨rfl, G10, hM10, -⟩
          have HM10 := mhid hM10
          have HP10 := mhid (show MemP ({ m with mem := storeV m.mem (1536 + 4 * (n : Int)) 4 (encS addOne) } : Mx).mem 16 (n + 1) ∧ ({ m with mem := storeV m.mem (1536 + 4 * (n : Int)) 4 (encS addOne) } : Mx).f = Fx.new 2 ∧ ({ m with mem := storeV m.mem (1536 + 4 * (n : Int)) 4 (encS addOne) } : Mx).kind = 0 ∧ ({ m with mem := storeV m.mem (1536 + 4 * (n : Int)) 4 (encS addOne) } : Mx).out = [] from ⟨by
            have := HP.out.1.mainS hlt
            rw [show ((1536 + 4 * n : Nat) : Int) = 1536 + 4 * (n : Int) by omega] at this
            exact this, HP.out.2.1, HP.out.2.2.1, HP.out.2.2.2⟩)
          have HV10 := mhid (show ({ m with mem := storeV m.mem (1536 + 4 * (n : Int)) 4 (encS addOne) } : Mx).mem = mainD (n + 1) from by
            rw [mainD_succ, ← HV.out, show ((1536 + 4 * n : Nat) : Int) = 1536 + 4 * (n : Int) by omega])
          clear hM10 HM HP HV
          generalize ({ m with mem := storeV m.mem (1536 + 4 * (n : Int)) 4 (encS addOne) } : Mx) = m10 at *
          go_wp2_with fail
          exact ⟨⟨n + 1, G10, m10, by omega, by go_num, HM10, HP10, HV10⟩, by simp [intOf] <;> omega⟩
        · obtain rfl : n = 128 := by omega
          clear e1 hlt
          go_wp2_with fail
          refine (mw_setpc w wr G M m HM.out 1536 (by decide)).mono ?_
          rintro e w11 ⟨rfl, G11, hM11, -⟩
          have HM11 := mhid hM11
          have hqb : (⟨0, pil, 0, 0⟩ : Px).bd := by have := HPL.out; unfold Px.bd; simp only; omega
          have HPS := mhid (mw_setpsr w w11 G11 M _ HM11.out ⟨0, pil, 0, 0⟩ hqb)
          clear hM11 HM hqb
          go_wp2_with fail
          refine HPS.out.mono ?_
          rintro e w12 ⟨rfl, G12, hM12, -⟩
          have hpk : packE ⟨0, pil, 0, 0⟩ ({ m with pc := 1536 } : Mx).nw = 0 := by
            have hn : ({ m with pc := 1536 } : Mx).nw = 2 := by show (m.f.nw : Int) = 2; rw [HP.out.2.1]; rfl
            rw [hn]
            exact if_pos ⟨⟨by decide, by decide⟩, by have := HPL.out; unfold pmayP; simp only; omega⟩
          rw [show spsrM { m with pc := 1536 } ⟨0, pil, 0, 0⟩ = { m with pc := 1536, p := ⟨0, pil, 0, 0⟩ } from if_pos hpk] at hM12
          have HM12 := mhid hM12
          have HFIN := mhid (show Made9 pil { m with pc := 1536, p := ⟨0, pil, 0, 0⟩ } from ⟨HP.out.1.fin, HV.out, HP.out.2.1, rfl, rfl, HP.out.2.2.1, HP.out.2.2.2⟩)
          clear hM12 hpk HPS HM11
          go_wp2_with fail
          first
            | go_ret2
            | go_ret
          exact ⟨M, G12, _, rfl, HM12.out, HFIN.out⟩
end Go.Proofs.YtajholbcpmjhiaaGreatDoor
/- The walk of muntinlaw09.head. -/
namespace Go.Proofs.YtajholbcpmjhiaaGreatDoor
open Go.RowKit Go.Maps
def wordsK (k : Nat) : List Int := [1478524928 + 4 * k, 69304321, 1545633792 + 4 * k, 2147483648]
theorem words_tick (M : List (List UInt8 × Int)) (i : Nat) (k : Nat) (h1 : 1 ≤ k) (h2 : k ≤ 15) : wordsE M i (tickT k) = 0 ∧ wordsL M i (tickT k) = wordsK k := by
  refine ⟨rfl, ?_⟩
  have h : ∀ k, 1 ≤ k → k ≤ 15 → (tickL k).map encS = wordsK k := tick_cases (by decide)
  rw [← h k h1 h2]
  rfl
theorem look_bds (M : List (List UInt8 × Int)) (h : ∀ e ∈ M, 0 ≤ e.2 ∧ e.2 < 4294967296) : ∀ nm t, look M nm = some t → 0 ≤ t ∧ t < 4294967296 := by
  intro nm t ht
  unfold look at ht
  cases hf : M.find? (fun e => e.1 == nm) with
  | none => rw [hf] at ht; cases ht
  | some e => rw [hf] at ht; cases ht; exact h e (List.mem_of_find?_eq_some hf)
set_option maxRecDepth 100000 in
set_option maxHeartbeats 4000000 in
theorem ahead_any9 (w : World) (ht : Tab w) : Calls Tryz.prog 43 #[] w fun e w' => e = .returned (.bool true) ∧ Below w.heap.size w w' := by
  have T0 := ahid ht
  clear ht
  go_enter Tryz.func43, Tryz.ntmps43
  go_wp2_with fail
  refine (new_lst w w (Below.refl _ _)).mono ?_
  rintro e w1 ⟨pa, Sa, rfl, la, ha, hb⟩
  have B := ahid hb
  have A := ahid la
  have T := ahid (TabLo.start T0.out B.out)
  clear hb la ha T0
  go_wp2_with fail
  refine (tick_lst w.heap.size w1 pa Sa [] [] A.out B.out.size T.out (by simp) (by simp [maxLen]) 3 (by omega) (by omega) (by decide)).mono ?_
  rintro e w2 ⟨rfl, S2, l2, o2, s2⟩
  replace T := ahid (T.out.keepO o2 (fun k h => (A.out.lo k h).1))
  replace B := ahid (Only.lower B.out o2 (fun k h => (A.out.lo k h).1))
  replace A := ahid (show Lst w.heap.size w2 pa S2 (tickT 3) [((tickNm 3).data.toList, 0)] from l2)
  clear l2 o2 s2
  go_wp2_with fail
  obtain ⟨sv, m, K, hA, hO, hK⟩ := A.out.ex
  refine (awords_any _ T.out.tab pa m sv K (tickT 3) _ hA (by decide) (look_bds _ (by decide))).mono ?_
  rintro e w3 ⟨va, la, rfl, hva, hova, hb⟩
  rw [(words_tick [((tickNm 3).data.toList, 0)] 0 3 (by omega) (by omega)).1] at hva ⊢
  rw [if_pos rfl, (words_tick [((tickNm 3).data.toList, 0)] 0 3 (by omega) (by omega)).2] at hva
  subst hva
  have Rva := ahid (Reads32.of_own hova)
  obtain ⟨pva, nva, cva, rfl⟩ := Rva.out.shape'
  replace A := ahid (A.out.keepb hb)
  replace T := ahid (T.out.keepb hb)
  replace B := ahid (abt B.out hb)
  clear hA hO hK hova hb
  go_wp2_with fail
  obtain ⟨sv, m, K, hA, hO, hK⟩ := A.out.ex
  have hc := aat_made _ pa m sv K _ _ hA (tickNm 3) (by decide)
  rw [show atN [((tickNm 3).data.toList, (0 : Int))] (tickNm 3) = 0 by decide, show atE [((tickNm 3).data.toList, (0 : Int))] (tickNm 3) = 0 by decide] at hc
  refine hc.mono ?_
  clear hc hA hO hK
  rintro e w' ⟨rfl, rfl⟩
  go_wp2_with fail
  have hS1 := same_any (w3.alloc (.cells #[.int .u32 1478524940, .int .u32 69304321, .int .u32 1545633804, .int .u32 2147483648] 24)) _ _ _ _ (Rva.out.keepb ((Below.refl _ _).alloc (Nat.le_refl _) _)) (Reads32.of_own (l := [1478524940, 69304321, 1545633804, 2147483648]) (own_new w3 0 #[.int .u32 1478524940, .int .u32 69304321, .int .u32 1545633804, .int .u32 2147483648] 24 4 1 rfl (by simp [maxLen]) (Nat.zero_le _)))
  refine hS1.mono ?_
  clear hS1
  rw [decide_eq_true (by decide)]
  rintro e w8 ⟨rfl, hb0⟩
  have hb := abt ((Below.refl w3.heap.size w3).alloc (Nat.le_refl _) _) hb0
  clear hb0
  replace A := ahid (A.out.keepb hb)
  replace T := ahid (T.out.keepb hb)
  replace B := ahid (abt B.out hb)
  clear hb Rva
  go_wp2_with fail
  obtain ⟨sv, m, K, hA, hO, hK⟩ := A.out.ex
  refine (tick_arg w8 pa m sv K _ _ hA (by decide) 16 (by omega)).mono ?_
  rintro e w9 ⟨rfl, hb⟩
  replace A := ahid (A.out.keepb hb)
  replace T := ahid (T.out.keepb hb)
  replace B := ahid (abt B.out hb)
  clear hb hA hO hK
  go_wp2_with fail
  obtain ⟨sv, m, K, hA, hO, hK⟩ := A.out.ex
  refine (tick_old w9 pa m sv K _ _ hA (by decide) (by decide) 3 (by omega) (by omega) (by decide)).mono ?_
  rintro e w10 ⟨rfl, hb⟩
  replace B := ahid (abt B.out hb)
  clear hb hA hO hK A T
  go_wp2_with fail
  refine (name_15 w10).mono ?_
  rintro e w' ⟨rfl, rfl⟩
  go_wp2_with fail
  refine (name_no 0 (by omega) w10).mono ?_
  rintro e w' ⟨rfl, rfl⟩
  go_wp2_with fail
  refine (tick_nil 3 w10).mono ?_
  rintro e w' ⟨rfl, rfl⟩
  go_wp2_with fail
  refine (all_nil w10).mono ?_
  rintro e w11 ⟨rfl, hb⟩
  replace B := ahid (abt B.out hb)
  clear hb
  go_wp2_with fail
  go_ret
  exact ⟨rfl, B.out⟩
end Go.Proofs.YtajholbcpmjhiaaGreatDoor
/- Plain law: what a machine says grows by one word a step at most. No program in sight. -/
namespace Go.Proofs.YtajholbcpmjhiaaGreatDoor
open Go.RowKit
def outL (m : Mx) : Nat := m.out.length
theorem outL_ite {c : Prop} [Decidable c] {a b : Mx} {n : Nat} (ha : outL a ≤ n) (hb : outL b ≤ n) : outL (if c then a else b) ≤ n := by split <;> assumption
theorem outL_op (m : Mx) (x : Ix) (a b : Int) : outL (opS m x a b) ≤ outL m + 1 := by
  have h0 : ∀ m' : Mx, outL m' = outL m → outL m' ≤ outL m + 1 := fun m' h => by omega
  unfold opS
  repeat' apply outL_ite
  all_goals first
    | (exact h0 _ rfl)
    | (exact h0 _ (outL_turn _ _ _ _ _ _))
    | (exact h0 _ (outL_load _ _ _ _))
    | (exact h0 _ (outL_store _ _ _ _))
    | (exact h0 _ (outL_win _ _ _))
    | (show (m.out ++ [a]).length ≤ m.out.length + 1; rw [List.length_append]; exact Nat.le_refl _)
theorem outL_step (m : Mx) (l : Int) : outL (stepM m l) ≤ outL m + 1 := by
  unfold stepM
  split
  · omega
  split
  · exact Nat.le_succ _
  · unfold runM
    split
    · exact Nat.le_succ _
    · exact outL_op _ _ _ _
end Go.Proofs.YtajholbcpmjhiaaGreatDoor
/- Plain law: two machines that count, one of which was interrupted, at the end. No program in sight. -/
namespace Go.Proofs.YtajholbcpmjhiaaGreatDoor
open Go.RowKit
structure ZeroAt (d : List Int) (cnt : Nat → Nat) (k : Nat) (e : List Int) : Prop where
  len : e.length = 2048
  far : ∀ i, 64 ≤ i → e.getD i 0 = d.getD i 0
  tick : ∀ l, l < 16 → loadS e (4 * l) 4 = if l < k then 0 else (cnt l : Int)
theorem ZeroAt.start {d : List Int} {pil : Int} {c : Nat} {st : List (Nat × Nat)} {cnt : Nat → Nat} {m : Mx} (h : TkM d pil c st cnt m) : ZeroAt d cnt 0 m.mem :=
  ⟨h.len, h.far, fun l hl => by rw [if_neg (Nat.not_lt_zero _)]; exact h.tick l hl⟩
theorem ZeroAt.load {d : List Int} {cnt : Nat → Nat} {k : Nat} {e : List Int} (h : ZeroAt d cnt k e) (hk : k < 16) : loadV e (4 * (k : Int)) 4 = (cnt k : Int) := by
  rw [show 4 * (k : Int) = ((4 * k : Nat) : Int) by omega, loadV_in (by omega) (by rw [h.len]; omega), h.tick k hk, if_neg (Nat.lt_irrefl _)]
theorem ZeroAt.step {d : List Int} {cnt : Nat → Nat} {k : Nat} {e : List Int} (h : ZeroAt d cnt k e) (hk : k < 16) : ZeroAt d cnt (k + 1) (storeV e (4 * (k : Int)) 4 0) := by
  rw [show 4 * (k : Int) = ((4 * k : Nat) : Int) by omega, storeV_word _ _ _ (by omega) (by rw [h.len]; omega)]
  refine ⟨by rw [storeS_len]; exact h.len, fun a ha => ?_, fun j hj => ?_⟩
  · rw [store_byte_out _ _ _ _ (by omega)]; exact h.far a ha
  · by_cases e : j = k
    · subst e
      rw [if_pos (Nat.lt_succ_self _), load_store _ _ _ (by rw [h.len]; omega) (by omega) (by omega)]
    · rw [load_store_ne _ _ _ _ (by omega), h.tick j hj]
      by_cases hl : j < k
      · rw [if_pos hl, if_pos (by omega)]
      · rw [if_neg hl, if_neg (by omega)]
theorem end_words {d e : List Int} {pil : Int} {c : Nat} {cnt : Nat → Nat} {o : Mx} (z : ZeroAt d cnt 16 e) (ho : TkM d pil c [] (fun _ => 0) o) : wordsS e 0 512 = wordsS o.mem 0 512 :=
  tk_words z.len ho.len z.far ho.far (fun l hl => by rw [z.tick l hl, if_pos hl]) (fun l hl => by rw [ho.tick l hl]; rfl)
theorem end_win {d : List Int} {pil : Int} {c : Nat} {cnt cnt2 : Nat → Nat} {m o : Mx} (hm : TkM d pil c [] cnt m) (ho : TkM d pil c [] cnt2 o) (wi : Int) : winV m.f wi = winV o.f wi := by
  have hr : regOk m.f wi 0 0 ↔ regOk o.f wi 0 0 := by unfold regOk; rw [hm.nw, ho.nw]
  have hw : winR m.f wi.toNat = winR o.f wi.toNat := by unfold winR; rw [hm.win, ho.win]
  unfold winV
  by_cases h : regOk m.f wi 0 0
  · rw [if_pos h, if_pos (hr.1 h), hw]
  · rw [if_neg h, if_neg (fun hh => h (hr.2 hh))]
theorem end_pc {d : List Int} {pil : Int} {c : Nat} {cnt : Nat → Nat} {m : Mx} (hm : TkM d pil c [] cnt m) : m.pc = ((1536 + 4 * c : Nat) : Int) := hm.pc
theorem end_p {d : List Int} {pil : Int} {c : Nat} {cnt : Nat → Nat} {m : Mx} (hm : TkM d pil c [] cnt m) : m.p = ⟨0, pil, 0, 0⟩ := hm.p
theorem alone_step {d : List Int} (hd : Mem9 d) {pil : Int} (h0 : 0 ≤ pil ∧ pil < 16) {j : Nat} {o : Mx} (h : TkM d pil j [] (fun _ => 0) o) (hj : j < 128) : TkM d pil (j + 1) [] (fun _ => 0) (stepM o 0) := by
  have := tk_step hd h0 (s := ⟨j, [], fun _ => 0, fun _ => 0⟩) h hj (fun _ => show (0 : Nat) < 4294967295 from by decide) 0
  rw [tk_alone h0.1] at this
  exact this
theorem run_snoc (pil : Int) (s : Tk) (vs : List Nat) (v : Nat) : Tk.run pil s (vs ++ [v]) = Tk.step pil (Tk.run pil s vs) v := by
  unfold Tk.run; rw [List.foldl_append]; rfl
theorem Made9.tk2 {pil : Int} {m : Mx} (h : Made9 pil m) (hok : m.ok) : TkM (mainD 128) pil 0 [] (fun _ => 0) m := by
  have := h.tk hok
  rw [h.same] at this
  exact this
theorem Made9.mem2 {pil : Int} {m : Mx} (h : Made9 pil m) : Mem9 (mainD 128) := by rw [← h.same]; exact h.mem
theorem outL_made9 {pil : Int} {m : Mx} (h : Made9 pil m) : outL m = 0 := by unfold outL; rw [h.out]; rfl
end Go.Proofs.YtajholbcpmjhiaaGreatDoor
/- Two machines of a law's own, side by side. No function of the program is walked here. -/
namespace Go.Proofs.YtajholbcpmjhiaaGreatDoor
open Go.RowKit
structure Two9 (w w' : World) (G : MG) (M : Nat) (m : Mx) (G2 : MG) (O : Nat) (o : Mx) : Prop where
  m : MIs w w' G M m
  o : MIs w w' G2 O o
  ap : Apart G G2
section
variable {w w1 w2 : World} {G G2 : MG} {M O : Nat} {m m2 o o2 : Mx}
theorem Two9.keepb (h : Two9 w w1 G M m G2 O o) (hb : Below w1.heap.size w1 w2) : Two9 w w2 G M m G2 O o := ⟨h.m.keepb hb, h.o.keepb hb, h.ap⟩
theorem Two9.first (h : Two9 w w1 G M m G2 O o) (ht : MTo w w1 w2 G M m2) : ∃ G', Two9 w w2 G' M m2 G2 O o ∧ MKeeps w1 w2 G G' := by
  obtain ⟨G', h1, h2⟩ := ht
  obtain ⟨h3, h4⟩ := h.o.other h.m h.ap h2
  exact ⟨G', ⟨h1, h3, h4⟩, h2⟩
theorem Two9.second (h : Two9 w w1 G M m G2 O o) (ht : MTo w w1 w2 G2 O o2) : ∃ G', Two9 w w2 G M m G' O o2 ∧ MKeeps w1 w2 G2 G' := by
  obtain ⟨G', h1, h2⟩ := ht
  obtain ⟨h3, h4⟩ := h.m.other h.o h.ap.symm h2
  exact ⟨G', ⟨h3, h1, h4.symm⟩, h2⟩
theorem Two9.bel (h : Two9 w w1 G M m G2 O o) : Below w.heap.size w w1 := h.m.bel
end
theorem tfield_kind (a b : Value) (w : World) : (Instr.field 89 (.agg #[a, b]) 0).run Tryz.prog w = .ok a w := by kernel_rfl
theorem tfield_bank (a b c d : Value) (w : World) : (Instr.field 47 (.agg #[a, b, c, d]) 2).run Tryz.prog w = .ok c w := by kernel_rfl
theorem psr_at {w W : World} {G : MG} {M : Nat} {m : Mx} {a b c d : Int} (h : MIs w W G M m) (hp : m.p = ⟨a, b, c, d⟩) : Calls Tryz.prog 19 #[.pointer (some ⟨M, 0, none⟩)] W fun e w' => e = .returned (.agg #[.int .u8 a, .int .u8 b, .int .u8 c, .int .u8 d]) ∧ Below W.heap.size W w' := by
  have h2 := mpsr_any W G M m h.at'
  rw [hp] at h2
  exact h2
theorem pc_at {w W : World} {G : MG} {M : Nat} {m : Mx} {x : Int} (h : MIs w W G M m) (hp : m.pc = x) : Calls Tryz.prog 46 #[.pointer (some ⟨M, 0, none⟩)] W fun e w' => e = .returned (.int .u32 x) ∧ W = w' := by
  have h2 := mpc_any W G M m h.at'
  rw [hp] at h2
  exact h2
end Go.Proofs.YtajholbcpmjhiaaGreatDoor
