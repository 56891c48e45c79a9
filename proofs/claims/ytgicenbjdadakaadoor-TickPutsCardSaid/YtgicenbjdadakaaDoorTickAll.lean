/- Walks of the package tick: each, All. -/
import Derived.Test.YtgicenbjdadakaaDoorTick
import Derived.IntWalk
namespace Go.Proofs.YtgicenbjdadakaaDoor
open Go.RowKit Go.Maps
set_option linter.unusedVariables false
set_option linter.unusedSimpArgs false
theorem vcell_new (w : World) (v : Value) (t : TypeId) : (w.alloc (.cells #[v] t)).cell? ⟨w.heap.size, 0, none⟩ = some v := by
  rw [cell_of_obj (heap_alloc_new w (.cells #[v] t))]; rfl
theorem Lst.step {w0 : Nat} {w w2 : World} {p : Nat} {S : Nat → Prop} {L L' : List It} {M M' : List (List UInt8 × Int)} (h : Lst w0 w p S L M) (hw : w0 ≤ w.heap.size) (hst : ∀ sv m K, AsmAt w p sv m K L M → StepTo w p sv m K L' M' w2) :
    ∃ S', Lst w0 w2 p S' L' M' ∧ Only S w w2 ∧ (∀ k, S' k → S k ∨ w.heap.size ≤ k) := by
  obtain ⟨sv, m, K, hA, hO, hK⟩ := h.ex
  exact h.to hw hO hK (hst sv m K hA)
/-- A level's handler is put. -/
theorem tick_lst (w0 : Nat) (w : World) (p : Nat) (S : Nat → Prop) (L : List It) (M : List (List UInt8 × Int)) (h : Lst w0 w p S L M) (hw : w0 ≤ w.heap.size) (ht : TabLo w0 w) (hL : L.length + 4 < 4294967296) (hM : M.length < maxLen) (k : Nat) (h1 : 1 ≤ k) (h2 : k ≤ 15) (hl : look M (tickNm k).data.toList = none) :
    Calls Tryd.prog 8 #[.pointer (some ⟨p, 0, none⟩), .int .i64 k] w fun e w' => e = .returned (.int .i64 0) ∧ ∃ S', Lst w0 w' p S' (L ++ tickT k) (M ++ [((tickNm k).data.toList, (L.length : Int))]) ∧ Only S w w' ∧ (∀ k, S' k → S k ∨ w.heap.size ≤ k) := by
  obtain ⟨sv, m, K, hA, hO, hK⟩ := h.ex
  refine (tick_new w ht.tab p m sv K L M hA hL hM k h1 h2 hl).mono ?_
  rintro e w' ⟨rfl, hst⟩
  exact ⟨rfl, h.to hw hO hK hst⟩
theorem all2_lst (w0 : Nat) (w : World) (cb p : Nat) (S : Nat → Prop) (L : List It) (M : List (List UInt8 × Int)) (h : Lst w0 w p S L M) (hw : w0 ≤ w.heap.size) (ht : TabLo w0 w) (hc : w.cell? ⟨cb, 0, none⟩ = some (.pointer (some ⟨p, 0, none⟩))) (hL : L.length + 4 < 4294967296) (hM : M.length < maxLen) (k : Nat) (h1 : 1 ≤ k) (h2 : k ≤ 15) (hl : look M (tickNm k).data.toList = none) :
    Calls Tryd.prog 28 #[.int .i64 k, .pointer (some ⟨cb, 0, none⟩)] w fun e w' => e = .returned (.int .i64 0) ∧ ∃ S', Lst w0 w' p S' (L ++ tickT k) (M ++ [((tickNm k).data.toList, (L.length : Int))]) ∧ Only S w w' ∧ (∀ k, S' k → S k ∨ w.heap.size ≤ k) := by
  have HT := ahid (tick_lst w0 w p S L M h hw ht hL hM k h1 h2 hl)
  clear h hw ht hL hM hl
  go_enter Tryd.func28, Tryd.ntmps28
  go_wp2_with fail
  refine HT.out.mono ?_
  rintro e w' ⟨rfl, hf⟩
  go_wp2_with fail
  go_ret
  exact ⟨rfl, hf⟩
def anyT (M : List (List UInt8 × Int)) : Bool := (List.range 15).any fun k => there M (k + 1)
def thereE (M : List (List UInt8 × Int)) : Int := if anyT M = true then 9 else 0
set_option maxRecDepth 100000 in
theorem each_there (w : World) (cb p m : Nat) (sv : Value) (K : Nat → Prop) (L : List It) (M : List (List UInt8 × Int)) (h : AsmAt w p sv m K L M) (hc : w.cell? ⟨cb, 0, none⟩ = some (.pointer (some ⟨p, 0, none⟩))) :
    Calls Tryd.prog 26 #[.func (.func 27) #[] #[.pointer (some ⟨cb, 0, none⟩)]] w fun e w' => e = .returned (.int .i64 (thereE M)) ∧ Below w.heap.size w w' := by
  have H := ahid h
  have HC := ahid hc
  clear h hc
  go_enter Tryd.func26, Tryd.ntmps26
  go_wp2_with fail
  go_loopw [5] (fun i wr => ∃ k : Nat, k ≤ 15 ∧ i = .int .i64 k ∧ (∀ j, j < k → there M (j + 1) = false) ∧ Below w.heap.size w wr) (fun i _ => 15 - (intOf i).toNat)
  case atStart => exact ⟨0, by omega, rfl, fun j hj => by omega, Below.refl _ _⟩
  case round =>
    obtain ⟨k, hk, rfl, hno, hb⟩ := hrel
    have HNO := ahid hno
    have HB := ahid hb
    clear hno hb
    by_cases hlt : k < 15
    · have e1 : IntKind.i64.wrap ((k : Int) + 1) = ((k + 1 : Nat) : Int) := by rw [IntWalk.i64_in _ (by omega)]; omega
      have h15 : (k : Int) < 15 := by omega
      have hcall := all1_any wr cb p m sv K L M (H.out.keep (Only.of_below (S := fun _ => False) HB.out) (fun _ _ h => h) (fun _ _ h => h)) ((HB.out.cell (p := ⟨cb, 0, none⟩) (World.block_lt_of_cell? _ _ HC.out)).trans HC.out) (k + 1) (by omega) (by omega)
      by_cases ht : there M (k + 1) = true
      · rw [if_pos ht] at hcall
        have HT := ahid ht
        have HCALL := ahid hcall
        clear hcall ht
        go_wp2_with fail
        refine HCALL.out.mono ?_
        rintro e w' ⟨rfl, n, rfl⟩
        go_wp2_with fail
        go_ret
        have ha : anyT M = true := List.any_eq_true.2 ⟨k, List.mem_range.2 hlt, HT.out⟩
        exact ⟨by rw [show thereE M = 9 from if_pos ha]; rfl, below_drewN HB.out n⟩
      · rw [if_neg ht] at hcall
        have HT := ahid ht
        have HCALL := ahid hcall
        clear hcall ht
        go_wp2_with fail
        refine HCALL.out.mono ?_
        rintro e w' ⟨rfl, n, rfl⟩
        go_wp2_with fail
        refine ⟨⟨k + 1, by omega, by go_num, fun j hj => ?_, below_drewN HB.out n⟩, by simp [intOf]; omega⟩
        rcases Nat.lt_succ_iff_lt_or_eq.1 hj with h | rfl
        · exact HNO.out j h
        · simpa using HT.out
    · obtain rfl : k = 15 := by omega
      go_wp2_with fail
      go_ret
      have ha : ¬ anyT M = true := fun h => by
        obtain ⟨j, hj, hj2⟩ := List.any_eq_true.1 h
        rw [HNO.out j (List.mem_range.1 hj)] at hj2; cases hj2
      exact ⟨by rw [show thereE M = 0 from if_neg ha]; rfl, HB.out⟩
set_option maxRecDepth 100000 in
theorem each_puts (w0 : Nat) (w : World) (cb p : Nat) (S : Nat → Prop) (h : Lst w0 w p S [] []) (hw : w0 ≤ w.heap.size) (ht : TabLo w0 w) (hc : w.cell? ⟨cb, 0, none⟩ = some (.pointer (some ⟨p, 0, none⟩))) (hcb : ¬ S cb) :
    Calls Tryd.prog 26 #[.func (.func 28) #[] #[.pointer (some ⟨cb, 0, none⟩)]] w fun e w' => e = .returned (.int .i64 0) ∧ ∃ S', Lst w0 w' p S' (allL 15) (allM 15) ∧ Only S w w' ∧ (∀ k, S' k → S k ∨ w.heap.size ≤ k) := by
  have H := ahid h
  have HT := ahid ht
  have HC := ahid hc
  clear h ht hc
  go_enter Tryd.func26, Tryd.ntmps26
  go_wp2_with fail
  go_loopw [5] (fun i wr => ∃ (k : Nat) (S' : Nat → Prop), k ≤ 15 ∧ i = .int .i64 k ∧ Lst w0 wr p S' (allL k) (allM k) ∧ Only S w wr ∧ (∀ k, S' k → S k ∨ w.heap.size ≤ k)) (fun i _ => 15 - (intOf i).toNat)
  case atStart => exact ⟨0, S, by omega, rfl, H.out, Only.refl _ _, fun _ h => .inl h⟩
  case round =>
    obtain ⟨k, S1, hk, rfl, hl, ho, hs⟩ := hrel
    have HL := ahid hl
    have HO := ahid ho
    have HS := ahid hs
    clear hl ho hs
    by_cases hlt : k < 15
    · have e1 : IntKind.i64.wrap ((k : Int) + 1) = ((k + 1 : Nat) : Int) := by rw [IntWalk.i64_in _ (by omega)]; omega
      have h15 : (k : Int) < 15 := by omega
      have hlen := all_len k (by omega)
      have hcall := ahid (all2_lst w0 wr cb p S1 (allL k) (allM k) HL.out (Nat.le_trans hw HO.out.size) (HT.out.keepO HO.out (fun j hj => (H.out.lo j hj).1)) ((HO.out.cell (p := ⟨cb, 0, none⟩) (World.block_lt_of_cell? _ _ HC.out) hcb).trans HC.out) (by rw [hlen.1]; omega) (by rw [hlen.2]; unfold maxLen; omega) (k + 1) (by omega) (by omega) (all_look k hlt))
      clear hlen
      go_wp2_with fail
      refine hcall.out.mono ?_
      rintro e w' ⟨rfl, S2, hl2, ho2, hs2⟩
      have HF := ahid (And.intro hl2 (And.intro ho2 hs2))
      clear hl2 ho2 hs2
      go_wp2_with fail
      refine ⟨⟨k + 1, S2, by omega, by go_num, HF.out.1, HO.out.fresh HF.out.2.1 (fun i hi hh => ?_), fun i hi => ?_⟩, by simp [intOf]; omega⟩
      · rcases HS.out i hh with h | h
        · exact h
        · omega
      · rcases HF.out.2.2 i hi with h | h
        · exact HS.out i h
        · exact .inr (Nat.le_trans HO.out.size h)
    · obtain rfl : k = 15 := by omega
      go_wp2_with fail
      go_ret
      exact ⟨rfl, S1, HL.out, HO.out, HS.out⟩
theorem all_nil (w : World) : Calls Tryd.prog 15 #[.pointer none] w fun e w' => e = .returned (.int .i64 1) ∧ Below w.heap.size w w' := by
  go_enter Tryd.func15, Tryd.ntmps15
  go_wp2_with fail
  refine (acopy_none _ _ (anone_nil _)).mono ?_
  rintro e w' ⟨rfl, rfl⟩
  go_wp2_with fail
  go_ret
  exact ⟨rfl, (Below.refl _ _).alloc (Nat.le_refl _) _⟩
theorem all_there (w : World) (p m : Nat) (sv : Value) (K : Nat → Prop) (L : List It) (M : List (List UInt8 × Int)) (h : AsmAt w p sv m K L M) (hL : L.length < 4294967296) (ha : anyT M = true) :
    Calls Tryd.prog 15 #[.pointer (some ⟨p, 0, none⟩)] w fun e w' => e = .returned (.int .i64 9) ∧ Below w.heap.size w w' := by
  have HB0 := ahid (show Below w.heap.size w (w.alloc (.cells #[.pointer (some ⟨p, 0, none⟩)] 22)) from (Below.refl _ _).alloc (Nat.le_refl _) _)
  have HC0 := ahid ((vcell_new w (.pointer (some ⟨p, 0, none⟩)) 22))
  have H := ahid h
  clear h
  go_enter Tryd.func15, Tryd.ntmps15
  go_wp2_with fail
  generalize w.alloc (.cells #[.pointer (some ⟨p, 0, none⟩)] 22) = W at *
  have hA := H.out.keep (Only.of_below (S := fun _ => False) HB0.out) (fun _ _ h => h) (fun _ _ h => h)
  refine (acopy_any W p m sv K L M hA hL).mono ?_
  rintro e w2 ⟨p2, v2, m2, rfl, _, _, hb2⟩
  have HA2 := ahid (hA.keep (Only.of_below (S := fun _ => False) hb2) (fun _ _ h => h) (fun _ _ h => h))
  have HB2 := ahid (HB0.out.trans (hb2.mono HB0.out.size))
  have hc2 := (hb2.cell (p := ⟨w.heap.size, 0, none⟩) (World.block_lt_of_cell? _ _ HC0.out)).trans HC0.out
  clear hb2 hA HB0 HC0
  have HE := each_there w2 w.heap.size p m sv K L M HA2.out hc2
  rw [show thereE M = 9 from if_pos ha] at HE
  replace HE := ahid HE
  go_wp2_with fail
  refine HE.out.mono ?_
  rintro e w3 ⟨rfl, hb3⟩
  go_wp2_with fail
  go_ret
  exact ⟨rfl, HB2.out.trans (hb3.mono HB2.out.size)⟩
theorem all_lst (w0 : Nat) (w : World) (p : Nat) (S : Nat → Prop) (h : Lst w0 w p S [] []) (hw : w0 ≤ w.heap.size) (ht : TabLo w0 w) :
    Calls Tryd.prog 15 #[.pointer (some ⟨p, 0, none⟩)] w fun e w' => e = .returned (.int .i64 0) ∧ ∃ S', Lst w0 w' p S' (allL 15) (allM 15) ∧ Only S w w' ∧ (∀ k, S' k → S k ∨ w.heap.size ≤ k) := by
  have HB0 := ahid (show Below w.heap.size w (w.alloc (.cells #[.pointer (some ⟨p, 0, none⟩)] 22)) from (Below.refl _ _).alloc (Nat.le_refl _) _)
  have HC0 := ahid ((vcell_new w (.pointer (some ⟨p, 0, none⟩)) 22))
  have H := ahid h
  have HT := ahid ht
  clear h ht
  go_enter Tryd.func15, Tryd.ntmps15
  go_wp2_with fail
  generalize w.alloc (.cells #[.pointer (some ⟨p, 0, none⟩)] 22) = W at *
  have hl := H.out.keepb HB0.out
  obtain ⟨sv, m, K, hA, hO, hK⟩ := hl.ex
  refine (acopy_any W p m sv K [] [] hA (by simp)).mono ?_
  rintro e w2 ⟨p2, v2, m2, rfl, _, _, hb2⟩
  have hA2 := (hA.keep (Only.of_below (S := fun _ => False) hb2) (fun _ _ h => h) (fun _ _ h => h))
  have hB2 := HB0.out.trans (hb2.mono HB0.out.size)
  have hc2 := (hb2.cell (p := ⟨w.heap.size, 0, none⟩) (World.block_lt_of_cell? _ _ HC0.out)).trans HC0.out
  have HE := each_there w2 w.heap.size p m sv K [] [] hA2 hc2
  rw [show thereE [] = 0 by decide] at HE
  replace HE := ahid HE
  have HB2 := ahid hB2
  have HC2 := ahid hc2
  clear hb2 hA hA2 HB0 HC0 hO hK hl hB2 hc2
  go_wp2_with fail
  refine HE.out.mono ?_
  rintro e w3 ⟨rfl, hb3⟩
  have HB3 := ahid (HB2.out.trans (hb3.mono HB2.out.size))
  have HP := ahid (each_puts w0 w3 w.heap.size p S (H.out.keepb HB3.out) (Nat.le_trans hw HB3.out.size) (HT.out.keepb HB3.out) ((hb3.cell (p := ⟨w.heap.size, 0, none⟩) (World.block_lt_of_cell? _ _ HC2.out)).trans HC2.out) (fun hs => by have := (H.out.lo _ hs).2; omega))
  clear hb3
  go_wp2_with fail
  refine HP.out.mono ?_
  rintro e w4 ⟨rfl, S', h1, h2, h3⟩
  go_wp2_with fail
  go_ret
  refine ⟨rfl, S', h1, (Only.of_below HB3.out).fresh h2 (fun _ _ h => h), fun k hk => ?_⟩
  rcases h3 k hk with h | h
  · exact .inl h
  · exact .inr (Nat.le_trans HB3.out.size h)
end Go.Proofs.YtgicenbjdadakaaDoor
