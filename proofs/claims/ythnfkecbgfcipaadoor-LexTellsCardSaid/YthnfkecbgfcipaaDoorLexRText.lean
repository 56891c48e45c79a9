/- The walk of muntinref12.Text. -/
import Derived.Test.YthnfkecbgfcipaaDoorLexText
namespace Go.Proofs.YthnfkecbgfcipaaDoor
open Go.RowKit
set_option linter.unusedVariables false
set_option linter.unusedSimpArgs false
theorem cat_two (a b : List UInt8) : (⟨a.toArray⟩ ++ ⟨b.toArray⟩ : ByteArray) = ⟨(a ++ b).toArray⟩ := by
  apply ByteArray.ext
  simp
set_option maxRecDepth 100000 in
set_option maxHeartbeats 4000000 in
theorem rtext_any (v : Value) (ts : List Tok) (w : World) (h : TokIn w v ts) (hl : (textS ts).length ≤ 1000000000000) :
    Calls Tryd.prog 11 #[v] w fun e w' => e = .returned (.string ⟨(textS ts).toArray⟩) ∧ w = w' := by
  obtain ⟨p, c, b, o, rfl, hl2, Q⟩ := h.hids
  clear h
  go_enter Tryd.func11, Tryd.ntmps11
  go_wp2_with fail
  go_loop [3, 4] (fun s i => ∃ (k : Nat) (c : List UInt8), k ≤ ts.length ∧ s = .string ⟨c.toArray⟩ ∧ i = .int .i64 (k : Int) ∧ c ++ textS (ts.drop k) = textS ts) (fun _ i => ts.length - (intOf i).toNat)
  case atStart => exact ⟨0, [], Nat.zero_le _, rfl, rfl, rfl⟩
  case round =>
    obtain ⟨k, c0, hk, rfl, rfl, hc⟩ := hrel
    have HC := shid hc
    clear hc
    by_cases hlt : k < ts.length
    case neg =>
      have d1 : decide ((k : Int) < ts.length) = false := decide_eq_false (by omega)
      have HE := shid (show c0 = textS ts by have h := HC.out; rw [List.drop_eq_nil_of_le (by omega)] at h; simpa [textS] using h)
      go_wp2_with fail
      go_ret
      exact ⟨sret_val (by rw [HE.out]; rfl), rfl⟩
    obtain rfl := Q.out.1 (by omega)
    obtain ⟨t, ht⟩ : ∃ t, ts[k]? = some t := ⟨_, List.getElem?_eq_getElem hlt⟩
    have HD : Hid (ts.drop k = t :: ts.drop (k + 1)) := shid (by rw [List.drop_eq_getElem_cons hlt]; congr 1; rw [List.getElem?_eq_getElem hlt] at ht; exact Option.some.inj ht)
    have hTA := Q.out.2 k t ht
    have c0' := hTA.c0
    have c1' := hTA.c1
    have h1 : (k : Int) < ts.length := by omega
    have d1 : decide ((k : Int) < ts.length) = true := decide_eq_true h1
    clear hTA
    have hnx : ∀ u, ts[k + 1]? = some u → w.cell? ⟨b, o + (k + 1) * 5, none⟩ = some (.int .u8 (u.kind : Int)) := fun u hu => (Q.out.2 (k + 1) u hu).c0
    have HNX := shid hnx
    have hlc : c0.length + (textS (ts.drop k)).length = (textS ts).length := by rw [← List.length_append, HC.out]
    have HTX := shid (textS_cons t (ts.drop (k + 1)))
    rw [HD.out] at hlc
    have hw64 : wrap64 ((k : Int) + 1) = (k : Int) + 1 := by unfold wrap64; omega
    clear hnx ht
    by_cases h6 : t.kind = 6
    · have e6 : ((t.kind : Int) == 6) = true := by rw [beq_iff_eq]; omega
      have HPC := shid (show textS (t :: ts.drop (k + 1)) = [10] ++ textS (ts.drop (k + 1)) by rw [HTX.out, if_pos h6])
      rw [HPC.out, List.length_append] at hlc
      have b1 : c0.length + 1 ≤ 1000000000000 := by simp at hlc; omega
      have g1 : ¬ (9223372036854775807 < c0.length + 1) := by omega
      have g2 : decide ((9223372036854775807 : Int) < c0.length + 1) = false := decide_eq_false (by omega)
      clear hlc
      go_wp2_with fail
      refine ⟨⟨k + 1, c0 ++ [10], by omega, congrArg Value.string (cat_two c0 [10]), by simp, by rw [List.append_assoc, ← HPC.out, ← HD.out]; exact HC.out⟩, by simp [intOf] <;> omega⟩
    have e6 : ((t.kind : Int) == 6) = false := by rw [beq_eq_false_iff_ne]; omega
    have HPC := shid (show textS (t :: ts.drop (k + 1)) = (t.text ++ (if t.kind = 1 then [58] else []) ++ tailS (ts.drop (k + 1))) ++ textS (ts.drop (k + 1)) by rw [HTX.out, if_neg h6])
    have hlc2 : c0.length + (t.text.length + (if t.kind = 1 then [58] else ([] : List UInt8)).length + (tailS (ts.drop (k + 1))).length) ≤ 1000000000000 := by
      rw [HPC.out] at hlc
      simp only [List.length_append] at hlc
      omega
    clear hlc
    have b1 : c0.length + t.text.length ≤ 1000000000000 := by omega
    clear hlc2
    have g1 : ¬ (9223372036854775807 < c0.length + t.text.length) := by omega
    have g2 : decide ((9223372036854775807 : Int) < c0.length + t.text.length) = false := decide_eq_false (by omega)
    have g3 : ¬ (9223372036854775807 < c0.length + t.text.length + 1) := by omega
    have g4 : decide ((9223372036854775807 : Int) < c0.length + t.text.length + 1) = false := decide_eq_false (by omega)
    have g5 : ¬ (9223372036854775807 < c0.length + t.text.length + 1 + 1) := by omega
    have g6 : decide ((9223372036854775807 : Int) < c0.length + t.text.length + 1 + 1) = false := decide_eq_false (by omega)
    by_cases h1k : t.kind = 1
    case pos =>
      have e1 : ((t.kind : Int) == 1) = true := by rw [beq_iff_eq]; omega
      have HK : Hid ((if t.kind = 1 then [58] else ([] : List UInt8)) = [58]) := shid (if_pos h1k)
      by_cases hn1 : k + 1 < ts.length
      case neg =>
        have d2 : decide ((k : Int) + 1 < ts.length) = false := decide_eq_false (by omega)
        have HPC := shid (HPC.out.trans (by rw [HK.out, show tailS (ts.drop (k + 1)) = [] by rw [List.drop_eq_nil_of_le (by omega)]; rfl]))
        go_wp2_with fail
        refine ⟨⟨k + 1, c0 ++ t.text ++ [58], by omega, congrArg Value.string (by rw [cat_two, cat_two]), by simp, by rw [← HC.out, HD.out, HPC.out]; simp⟩, by simp [intOf] <;> omega⟩
      obtain ⟨u, hu⟩ : ∃ u, ts[k + 1]? = some u := ⟨_, List.getElem?_eq_getElem hn1⟩
      have n0 := HNX.out u hu
      have HU : Hid (ts.drop (k + 1) = u :: ts.drop (k + 2)) := shid (by rw [List.drop_eq_getElem_cons hn1]; congr 1; rw [List.getElem?_eq_getElem hn1] at hu; exact Option.some.inj hu)
      have hn1i : (k : Int) + 1 < ts.length := by omega
      have d2 : decide ((k : Int) + 1 < ts.length) = true := decide_eq_true hn1i
      clear hu
      by_cases hu6 : u.kind = 6
      case pos =>
        have eu : ((u.kind : Int) == 6) = true := by rw [beq_iff_eq]; omega
        have HPC := shid (HPC.out.trans (by rw [HK.out, show tailS (ts.drop (k + 1)) = [] by rw [HU.out]; exact if_pos hu6]))
        go_wp2_with fail
        refine ⟨⟨k + 1, c0 ++ t.text ++ [58], by omega, congrArg Value.string (by rw [cat_two, cat_two]), by simp, by rw [← HC.out, HD.out, HPC.out]; simp⟩, by simp [intOf] <;> omega⟩
      have eu : ((u.kind : Int) == 6) = false := by rw [beq_eq_false_iff_ne]; omega
      have HPC := shid (HPC.out.trans (by rw [HK.out, show tailS (ts.drop (k + 1)) = [32] by rw [HU.out]; exact if_neg hu6]))
      first | skip | skip
      go_wp2_with fail
      refine ⟨⟨k + 1, c0 ++ t.text ++ [58] ++ [32], by omega, congrArg Value.string (by rw [cat_two, cat_two, cat_two]), by simp, by rw [← HC.out, HD.out, HPC.out]; simp⟩, by simp [intOf] <;> omega⟩
    have e1 : ((t.kind : Int) == 1) = false := by rw [beq_eq_false_iff_ne]; omega
    have HK : Hid ((if t.kind = 1 then [58] else ([] : List UInt8)) = []) := shid (if_neg h1k)
    by_cases hn1 : k + 1 < ts.length
    case neg =>
      have d2 : decide ((k : Int) + 1 < ts.length) = false := decide_eq_false (by omega)
      have HPC := shid (HPC.out.trans (by rw [HK.out, show tailS (ts.drop (k + 1)) = [] by rw [List.drop_eq_nil_of_le (by omega)]; rfl]))
      go_wp2_with fail
      refine ⟨⟨k + 1, c0 ++ t.text, by omega, congrArg Value.string (by rw [cat_two]), by simp, by rw [← HC.out, HD.out, HPC.out]; simp⟩, by simp [intOf] <;> omega⟩
    obtain ⟨u, hu⟩ : ∃ u, ts[k + 1]? = some u := ⟨_, List.getElem?_eq_getElem hn1⟩
    have n0 := HNX.out u hu
    have HU : Hid (ts.drop (k + 1) = u :: ts.drop (k + 2)) := shid (by rw [List.drop_eq_getElem_cons hn1]; congr 1; rw [List.getElem?_eq_getElem hn1] at hu; exact Option.some.inj hu)
    have hn1i : (k : Int) + 1 < ts.length := by omega
    have d2 : decide ((k : Int) + 1 < ts.length) = true := decide_eq_true hn1i
    clear hu
    by_cases hu6 : u.kind = 6
    case pos =>
      have eu : ((u.kind : Int) == 6) = true := by rw [beq_iff_eq]; omega
      have HPC := shid (HPC.out.trans (by rw [HK.out, show tailS (ts.drop (k + 1)) = [] by rw [HU.out]; exact if_pos hu6]))
      go_wp2_with fail
      refine ⟨⟨k + 1, c0 ++ t.text, by omega, congrArg Value.string (by rw [cat_two]), by simp, by rw [← HC.out, HD.out, HPC.out]; simp⟩, by simp [intOf] <;> omega⟩
    have eu : ((u.kind : Int) == 6) = false := by rw [beq_eq_false_iff_ne]; omega
    have HPC := shid (HPC.out.trans (by rw [HK.out, show tailS (ts.drop (k + 1)) = [32] by rw [HU.out]; exact if_neg hu6]))
    first | skip | skip
    go_wp2_with fail
    refine ⟨⟨k + 1, c0 ++ t.text ++ [32], by omega, congrArg Value.string (by rw [cat_two, cat_two]), by simp, by rw [← HC.out, HD.out, HPC.out]; simp⟩, by simp [intOf] <;> omega⟩
end Go.Proofs.YthnfkecbgfcipaaDoor
