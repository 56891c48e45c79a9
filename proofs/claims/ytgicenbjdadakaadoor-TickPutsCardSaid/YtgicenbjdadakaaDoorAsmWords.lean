/- Walks of the package asm: Words. -/
import Derived.Test.YtgicenbjdadakaaDoorAsmPut
import Derived.Test.YtgicenbjdadakaaDoorRow32
namespace Go.Proofs.YtgicenbjdadakaaDoor
open Go.RowKit Go.Maps
set_option linter.unusedVariables false
set_option linter.unusedSimpArgs false
/-- What an item is at a place: its word, its answer. -/
def itW (M : List (List UInt8 × Int)) (i : Int) : It → Int
  | .put x => encS x
  | .far x nm => match look M nm.data.toList with | none => 0 | some t => farW x (t - i)
def itE (M : List (List UInt8 × Int)) (i : Int) : It → Int
  | .put x => 0
  | .far x nm => match look M nm.data.toList with | none => 7 | some t => farE x (t - i)
/-- All words; the first answer that is not 0. -/
def wordsL (M : List (List UInt8 × Int)) : Nat → List It → List Int
  | _, [] => []
  | i, it :: L => itW M i it :: wordsL M (i + 1) L
def wordsE (M : List (List UInt8 × Int)) : Nat → List It → Int
  | _, [] => 0
  | i, it :: L => if itE M i it = 0 then wordsE M (i + 1) L else itE M i it
theorem wordsL_len (M : List (List UInt8 × Int)) : ∀ (L : List It) (i : Nat), (wordsL M i L).length = L.length := by
  intro L; induction L with
  | nil => intro i; rfl
  | cons x L ih => intro i; simp [wordsL, ih]
theorem wordsL_snoc (M : List (List UInt8 × Int)) (it : It) : ∀ (L : List It) (i : Nat), wordsL M i (L ++ [it]) = wordsL M i L ++ [itW M (i + L.length : Nat) it] := by
  intro L; induction L with
  | nil => intro i; simp [wordsL]
  | cons x L ih => intro i; simp only [List.cons_append, wordsL, ih, List.length_cons]; rw [show i + 1 + L.length = i + (L.length + 1) by omega]
theorem wordsE_append (M : List (List UInt8 × Int)) : ∀ (L L2 : List It) (i : Nat), wordsE M i (L ++ L2) = if wordsE M i L = 0 then wordsE M (i + L.length) L2 else wordsE M i L := by
  intro L; induction L with
  | nil => intro L2 i; simp [wordsE]
  | cons x L ih =>
    intro L2 i
    simp only [List.cons_append, wordsE, ih, List.length_cons]
    rw [show i + 1 + L.length = i + (L.length + 1) by omega]
    by_cases h : itE M i x = 0
    · simp [h]
    · simp [h]
theorem wordsE_stop (M : List (List UInt8 × Int)) (L : List It) (k : Nat) (it : It) (h0 : wordsE M 0 (L.take k) = 0) (hk : L[k]? = some it) (he : itE M k it ≠ 0) : wordsE M 0 L = itE M k it := by
  have hlt : k < L.length := by
    rcases Nat.lt_or_ge k L.length with h | h
    · exact h
    · rw [List.getElem?_eq_none h] at hk; cases hk
  have e : L = L.take k ++ (it :: L.drop (k + 1)) := by
    rw [List.getElem?_eq_getElem hlt] at hk
    cases hk
    rw [← List.drop_eq_getElem_cons hlt, List.take_append_drop]
  rw [e, wordsE_append, if_pos h0, List.length_take, Nat.min_eq_left (by omega), Nat.zero_add, wordsE, if_neg he]
theorem words_step (M : List (List UInt8 × Int)) (L : List It) (k : Nat) (it : It) (h0 : wordsE M 0 (L.take k) = 0) (hk : L[k]? = some it) (he : itE M k it = 0) :
    wordsE M 0 (L.take (k + 1)) = 0 ∧ wordsL M 0 (L.take (k + 1)) = wordsL M 0 (L.take k) ++ [itW M k it] := by
  have hlt : k < L.length := by
    rcases Nat.lt_or_ge k L.length with h | h
    · exact h
    · rw [List.getElem?_eq_none h] at hk; cases hk
  have e : L.take (k + 1) = L.take k ++ [it] := by
    rw [List.getElem?_eq_getElem hlt] at hk
    cases hk
    exact List.take_succ_eq_append_getElem hlt
  rw [e, wordsL_snoc, wordsE_append, if_pos h0, List.length_take, Nat.min_eq_left (by omega), Nat.zero_add]
  exact ⟨by simp [wordsE, he], rfl⟩
/-- What Words tells. -/
def WordsOk (w : World) (L : List It) (M : List (List UInt8 × Int)) (e : Ending) (w' : World) : Prop :=
  ∃ v l, e = .returned (.tuple #[v, .int .i64 (wordsE M 0 L)]) ∧ l = (if wordsE M 0 L = 0 then wordsL M 0 L else []) ∧ w'.ownsRow w.heap.size 40 1 v l.length (u32s l) ∧ Below w.heap.size w w'
theorem WordsOk.stop {w wr : World} {L : List It} {M : List (List UInt8 × Int)} {k : Nat} {it : It} {e : Int} (h0 : wordsE M 0 (L.take k) = 0) (hk : L[k]? = some it) (he : itE M k it = e) (hne : e ≠ 0) (hb : Below w.heap.size w wr) :
    WordsOk w L M (.returned (.tuple #[.slice none 0 0, .int .i64 e])) wr := by
  have h := wordsE_stop M L k it h0 hk (by rw [he]; exact hne)
  rw [he] at h
  exact ⟨_, [], by rw [h], by rw [h, if_neg hne], World.ownsRow_nil _ _ _ _, hb⟩
theorem infou : (Tryd.prog.info? 40).map (fun i => (i.zero, i.size, i.bytes)) = some (some (.int .u32 0), 1, 4) := by kernel_rfl
theorem awords_none (w : World) (a : Value) (hn : Calls Tryd.prog 25 #[a] w fun e w' => e = .returned (.bool true) ∧ w = w') :
    Calls Tryd.prog 11 #[a] w fun e w' => e = .returned (.tuple #[.slice none 0 0, .int .i64 1]) ∧ w = w' := by
  go_enter Tryd.func11, Tryd.ntmps11
  go_wp2_with fail
  refine hn.mono ?_
  rintro e w' ⟨rfl, rfl⟩
  go_wp2_with fail
  go_ret2
  exact ⟨rfl, rfl⟩
theorem _root_.Go.World.ownsRow.kept_below {a b : World} {B : Nat} {e : TypeId} {size n : Nat} {v : Value} {xs : List Value} (h : a.ownsRow B e size v n xs) (o : Below a.heap.size a b) (_ : B ≤ a.heap.size) : b.ownsRow B e size v n xs := by
  refine ⟨h.1, ?_⟩
  rcases h.2 with h | ⟨g, cap, cur, e1, e2, e3, e4⟩
  · exact .inl h
  · exact .inr ⟨g, cap, cur, e1, e2, (o.block g (lt_of_block e3)).trans e3, e4⟩
theorem farE_cases (x : Ix) (d : Int) : farE x d = 0 ∨ farE x d = 50 := by unfold farE; split <;> simp
set_option maxRecDepth 100000 in
set_option maxHeartbeats 2000000 in
theorem awords_any (w : World) (ht : Tab w) (p m : Nat) (sv : Value) (K : Nat → Prop) (L : List It) (M : List (List UInt8 × Int)) (h : AsmAt w p sv m K L M) (hL : L.length < 4294967296) (hM : ∀ nm t, look M nm = some t → 0 ≤ t ∧ t < 4294967296) :
    Calls Tryd.prog 11 #[.pointer (some ⟨p, 0, none⟩)] w (WordsOk w L M) := by
  obtain ⟨c0, c1, f0, f1⟩ := h.cells
  have HN := ahid (anone_made w p m c1)
  obtain ⟨i0, hi, hz0, hz1, hz2⟩ := info_parts infou
  have HII := ahid (And.intro hi (And.intro hz0 (And.intro hz1 hz2)))
  clear hi hz0 hz1 hz2
  have HM := ahid hM
  have HT := ahid ht
  have H := ahid h
  clear ht hM h c1 f0 f1
  obtain ⟨vs, hown, hlen, hvs⟩ := H.out.row
  have HV := ahid (And.intro hlen hvs)
  clear hlen hvs
  rcases hown.2 with ⟨rfl, hl0⟩ | ⟨g, cap, cur, rfl, _, hcur, hcap1, hcap2, hsz, htk⟩
  · obtain rfl : L = [] := List.eq_nil_of_length_eq_zero hl0
    clear hown hl0
    go_enter Tryd.func11, Tryd.ntmps11
    go_wp2_with fail
    refine HN.out.mono ?_
    rintro e w' ⟨rfl, rfl⟩
    go_wp2_with fail
    refine wp_loop_rounds 1 ?_
    rw [rounds_succ]
    go_wp2_with fail
    go_ret2
    exact ⟨_, [], rfl, rfl, World.ownsRow_nil _ _ _ _, Below.refl _ _⟩
  · have hcell := hown.cells rfl
    have HC := ahid hcell
    clear hcell hcur hsz htk hown
    have HZ := ahid (World.ownsRow_nil w w.heap.size 40 1)
    unfold maxLen at hcap2
    go_enter Tryd.func11, Tryd.ntmps11
    go_wp2_with fail
    refine HN.out.mono ?_
    rintro e w' ⟨rfl, rfl⟩
    go_wp2_with fail
    go_loopw [4, 16] (fun v4 i wr => ∃ (k : Nat) (ov : Value), k ≤ L.length ∧ i = .int .i64 k ∧ ov = v4 ∧ wordsE M 0 (L.take k) = 0 ∧ wr.ownsRow w.heap.size 40 1 ov k (u32s (wordsL M 0 (L.take k))) ∧ Below w.heap.size w wr) (fun _ i _ => L.length - (intOf i).toNat)
    case atStart => exact ⟨0, _, Nat.zero_le _, rfl, rfl, rfl, HZ.out, Below.refl _ _⟩
    case round =>
      obtain ⟨k, ov, hk, rfl, rfl, hz, hrow, hbel⟩ := hrel
      have HR := ahid (And.intro hz (And.intro hrow hbel))
      clear hz hrow hbel
      by_cases hlt : k < L.length
      · obtain ⟨it, hit⟩ : ∃ it, L[k]? = some it := ⟨_, List.getElem?_eq_getElem hlt⟩
        obtain ⟨u, hu⟩ : ∃ u, vs[k]? = some u := ⟨_, List.getElem?_eq_getElem (by rw [HV.out.1]; exact hlt)⟩
        have hclo := HV.out.2 k u it hu hit
        have hcu := HC.out k u hu
        rw [addr_add0] at hcu
        have hA := H.out.keep (Only.of_below (S := fun _ => False) HR.out.2.2) (fun _ _ h => h) (fun _ _ h => h)
        have cu : wr.cell? ⟨g, k, none⟩ = some u := (HR.out.2.2.cell (p := ⟨g, k, none⟩) (World.block_lt_of_cell? _ _ hcu)).trans hcu
        have hclo2 := hclo.keep (Only.of_below (S := fun _ => False) HR.out.2.2) (fun _ _ h => h) (fun _ _ h => h)
        obtain ⟨_, c1, _, _⟩ := hA.cells
        have HK := ahid hit
        have HCL := ahid hclo2
        have HA := ahid hA
        have hkL : (k : Int) < L.length := by omega
        clear hit hu hclo hcu hclo2 hA
        have hown2 := HR.out.2.1
        cases it with
        | put x =>
          obtain ⟨c, rfl, hKc, hcc⟩ := HCL.out
          have HCC := ahid (fun mv => aput1_any wr K _ x ⟨c, rfl, hKc, hcc⟩ k mv c rfl hcc)
          have HE := ahid (show itE M k (.put x) = 0 from rfl)
          have HWD := ahid (show itW M k (.put x) = encS x from rfl)
          have HB3 := ahid HR.out.2.2
          clear hKc hcc HCL
          generalize encS x = q at HCC HWD
          go_wp2_with fail
          refine (HCC.out _).mono ?_
          rintro e w' ⟨rfl, rfl⟩
          have hi := HII.out.1
          go_wp2_with (first | (at_builtin; refine wpList_append_own _ rfl _ _ 29 rfl w.heap.size 40 i0 (.int .u32 0) 1 4 Tryd.underlying29 hi HII.out.2.1 HII.out.2.2.1 HII.out.2.2.2 rfl (by decide) _ k (u32s (wordsL M 0 (L.take k))) rfl (hown2.alloc _) ⟨wr.heap.size, 0, none⟩ 1 1 [.int .u32 q] rfl rfl (cell_one_new _ _ _) (by simp [Value.oneCell']) (by unfold maxLen; omega) (by omega) ((HB3.out.alloc HB3.out.size _).size) ?_; intro v' w3 hown3 hgrow3 hnil3))
          obtain ⟨hz3, hl3⟩ := words_step M L k _ HR.out.1 HK.out HE.out
          have hb3 := (HB3.out.alloc HB3.out.size _).grown hgrow3 (by simp; have := HB3.out.size; omega) (fun i hi => (HR.out.2.1.lt i hi).1)
          have hr3 : w3.ownsRow w.heap.size 40 1 v' (k + 1) (u32s (wordsL M 0 (L.take (k + 1)))) := by rw [hl3, HWD.out]; simpa [u32s] using hown3
          clear hl3
          go_roundw
          case rel => exact ⟨k + 1, v', by omega, by go_num, rfl, hz3, hr3, hb3⟩
          case measure => simp [intOf]; omega
        | far x nm =>
          obtain ⟨c, d, rfl, hKc, hKd, hcn, hcx, hnm, hbd⟩ := HCL.out
          cases hlk : look M nm.data.toList with
          | none =>
            have HCC := ahid (afar1_lost wr p m _ K L M HA.out k nm hnm c d hcn hlk)
            have HE := ahid (show itE M k (.far x nm) = 7 by simp only [itE, hlk])
            clear hKc hKd hcn hcx hnm hbd hlk HCL hown2
            go_wp2_with fail
            refine HCC.out.mono ?_
            rintro e w' ⟨rfl, rfl⟩
            go_wp2_with fail
            go_ret2
            exact WordsOk.stop HR.out.1 HK.out HE.out (by decide) HR.out.2.2
          | some t =>
            have htb := HM.out _ _ hlk
            have HCC := ahid (afar1_there wr (HT.out.keep HR.out.2.2) p m _ K L M HA.out k nm hnm c d hcn x hbd hcx t hlk (by omega))
            have HE0 := ahid (show itE M k (.far x nm) = farE x (t - k) by simp only [itE, hlk])
            have HWD := ahid (show itW M k (.far x nm) = farW x (t - k) by simp only [itW, hlk])
            have hfe := farE_cases x (t - k)
            clear hKc hKd hcn hcx hnm hbd hlk HCL htb hown2
            generalize farW x (t - k) = q at HCC HWD
            generalize farE x (t - k) = ee at HCC HE0 hfe
            rcases hfe with rfl | rfl
            · have HE := HE0
              go_wp2_with fail
              refine HCC.out.mono ?_
              rintro e w4 ⟨rfl, hb4⟩
              have hown2 := HR.out.2.1.kept_below hb4 HR.out.2.2.size
              have HB3 := ahid (HR.out.2.2.trans (hb4.mono HR.out.2.2.size))
              clear hb4
              have hi := HII.out.1
              go_wp2_with (first | (at_builtin; refine wpList_append_own _ rfl _ _ 29 rfl w.heap.size 40 i0 (.int .u32 0) 1 4 Tryd.underlying29 hi HII.out.2.1 HII.out.2.2.1 HII.out.2.2.2 rfl (by decide) _ k (u32s (wordsL M 0 (L.take k))) rfl (hown2.alloc _) ⟨w4.heap.size, 0, none⟩ 1 1 [.int .u32 q] rfl rfl (cell_one_new _ _ _) (by simp [Value.oneCell']) (by unfold maxLen; omega) (by omega) ((HB3.out.alloc HB3.out.size _).size) ?_; intro v' w3 hown3 hgrow3 hnil3))
              obtain ⟨hz3, hl3⟩ := words_step M L k _ HR.out.1 HK.out HE.out
              have hb3 := (HB3.out.alloc HB3.out.size _).grown hgrow3 (by simp; have := HB3.out.size; omega) (fun i hi => (HR.out.2.1.lt i hi).1)
              have hr3 : w3.ownsRow w.heap.size 40 1 v' (k + 1) (u32s (wordsL M 0 (L.take (k + 1)))) := by rw [hl3, HWD.out]; simpa [u32s] using hown3
              clear hl3
              go_roundw
              case rel => exact ⟨k + 1, v', by omega, by go_num, rfl, hz3, hr3, hb3⟩
              case measure => simp [intOf]; omega
            · go_wp2_with fail
              refine HCC.out.mono ?_
              rintro e w4 ⟨rfl, hb4⟩
              have HB4 := ahid hb4
              clear hb4
              go_wp2_with fail
              go_ret2
              exact WordsOk.stop HR.out.1 HK.out HE0.out (by decide) (HR.out.2.2.trans (HB4.out.mono HR.out.2.2.size))
      · obtain rfl : k = L.length := by omega
        have hkL : ¬ ((L.length : Int) < L.length) := by omega
        go_wp2_with fail
        go_ret2
        have hz := HR.out.1
        have hr := HR.out.2.1
        rw [List.take_length] at hz hr
        exact ⟨ov, wordsL M 0 L, by rw [hz]; rfl, by rw [hz, if_pos rfl], by rw [wordsL_len]; exact hr, HR.out.2.2⟩
end Go.Proofs.YtgicenbjdadakaaDoor
