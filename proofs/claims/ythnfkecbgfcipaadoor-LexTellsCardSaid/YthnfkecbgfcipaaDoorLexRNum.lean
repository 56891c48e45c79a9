/- The walk of muntinref12.number. -/
import Derived.Test.YthnfkecbgfcipaaDoorShapeRName
import Derived.Test.YthnfkecbgfcipaaDoorLexNum
namespace Go.Proofs.YthnfkecbgfcipaaDoor
open Go.RowKit
set_option linter.unusedVariables false
set_option linter.unusedSimpArgs false
theorem numOk_bad {most : Nat} {l : List UInt8} (h : alldB l = false) : numOk most l = false := by unfold numOk; rw [h]; simp
theorem take_bd (l : List UInt8) (k : Nat) (hd : alldB l = true) (hl : l.length ≤ 12) : foldV 0 (l.take k) < 1000000000000 := by
  have h1 : alldB (l.take k) = true := by
    unfold alldB at hd ⊢
    rw [List.all_eq_true] at hd ⊢
    exact fun x hx => hd x (List.mem_of_mem_take hx)
  have h2 := foldV_lt (l.take k) 0 h1
  have h3 : 10 ^ (l.take k).length ≤ 10 ^ 12 := Nat.pow_le_pow_right (by decide) (by rw [List.length_take]; omega)
  omega
theorem take_step (l : List UInt8) (k : Nat) (x : UInt8) (h : l[k]? = some x) : foldV 0 (l.take (k + 1)) = 10 * foldV 0 (l.take k) + (x.toNat - 48) := by
  have hlt := (List.getElem?_eq_some_iff.1 h).1
  have e : l[k] = x := (List.getElem?_eq_some_iff.1 h).2
  rw [List.take_succ_eq_append_getElem hlt, foldV_append, e]
  rfl
set_option maxRecDepth 20000 in
set_option maxHeartbeats 2000000 in
theorem rnumber_cons (c : UInt8) (r : List UInt8) (most : Nat) (hm : most < 1000000000000) (hs : r.length + 1 ≤ 140737488352000) (w : World) :
    Calls Tryd.prog 40 #[.string ⟨(c :: r).toArray⟩, .int .u64 (most : Int)] w fun e w' => (∃ n : Nat, e = .returned (.tuple #[.int .u64 (n : Int), .bool (numOk most (c :: r))]) ∧ (numOk most (c :: r) = true → n = valS (c :: r))) ∧ w = w' := by
  have hdg : Calls Tryd.prog 52 #[.string ⟨(c :: r).toArray⟩] w fun e w' => e = .returned (.bool (alldB (c :: r))) ∧ w = w' := by
    have h := rdigits_any ⟨(c :: r).toArray⟩ (by simpa [ByteArray.size] using hs) w
    have e : decide (0 < (⟨(c :: r).toArray⟩ : ByteArray).size) = true := decide_eq_true (by simp [ByteArray.size])
    rw [e, Bool.and_true] at h
    exact h
  by_cases hd : alldB (c :: r) = true
  case neg =>
    have hd' : alldB (c :: r) = false := by simpa using hd
    rw [hd'] at hdg
    have HDG := shid hdg
    have HN := shid (numOk_bad (most := most) hd')
    clear hdg hd hd'
    go_enter Tryd.func40, Tryd.ntmps40
    go_wp2_with (go_at_call 52; (with_reducible refine HDG.out.mono ?_); rintro e w7 ⟨rfl, rfl⟩)
    go_ret2
    exact ⟨⟨0, by rw [HN.out]; rfl, fun h => by rw [HN.out] at h; cases h⟩, rfl⟩
  rw [hd] at hdg
  have HDG := shid hdg
  have HD := shid hd
  clear hdg hd
  by_cases hz : 1 < r.length + 1 ∧ c.toNat = 48
  · have HN := shid (show numOk most (c :: r) = false by
      unfold numOk
      have e1 : head48 (c :: r) = true := decide_eq_true hz.2
      have e2 : decide (1 < (c :: r).length) = true := decide_eq_true hz.1
      rw [e1, e2]; simp)
    have hv2 : ((((⟨(c :: r).toArray⟩ : ByteArray)[0]'(by simp [ByteArray.size])).toNat : Int) == 48) = true := by
      rw [beq_iff_eq]; have := hz.2; show ((c.toNat : Int) = 48); omega
    have d1 : decide ((1 : Int) < (r.length : Int) + 1) = true := decide_eq_true (by omega)
    clear hz
    go_enter Tryd.func40, Tryd.ntmps40
    go_wp2_with (go_at_call 52; (with_reducible refine HDG.out.mono ?_); rintro e w7 ⟨rfl, rfl⟩)
    go_ret2
    exact ⟨⟨0, by rw [HN.out]; rfl, fun h => by rw [HN.out] at h; cases h⟩, rfl⟩
  by_cases hlong : 12 < r.length + 1
  · have HN := shid (numOk_long most hm (c :: r) (by simpa using hlong))
    have hv2 : ((((⟨(c :: r).toArray⟩ : ByteArray)[0]'(by simp [ByteArray.size])).toNat : Int) == 48) = false := by
      rw [beq_eq_false_iff_ne]; intro h; exact hz ⟨by omega, by have : (c.toNat : Int) = 48 := h; omega⟩
    have d1 : decide ((1 : Int) < (r.length : Int) + 1) = true := decide_eq_true (by omega)
    have d2 : decide ((12 : Int) < (r.length : Int) + 1) = true := decide_eq_true (by omega)
    clear hz
    go_enter Tryd.func40, Tryd.ntmps40
    go_wp2_with (go_at_call 52; (with_reducible refine HDG.out.mono ?_); rintro e w7 ⟨rfl, rfl⟩)
    go_ret2
    exact ⟨⟨0, by rw [HN.out]; rfl, fun h => by rw [HN.out] at h; cases h⟩, rfl⟩
  have HN := shid (show numOk most (c :: r) = decide (valS (c :: r) ≤ most) by
    unfold numOk
    have e1 : (head48 (c :: r) && decide (1 < (c :: r).length)) = false := by
      cases hh : head48 (c :: r) with
      | false => rfl
      | true =>
        have : c.toNat = 48 := of_decide_eq_true hh
        exact decide_eq_false (fun h => hz ⟨h, this⟩)
    rw [e1, HD.out]; simp)
  have d2 : decide ((12 : Int) < (r.length : Int) + 1) = false := decide_eq_false (by omega)
  have hl12 : r.length ≤ 11 := by omega
  clear hlong
  have HZ := shid hz
  clear hz
  go_enter Tryd.func40, Tryd.ntmps40
  by_cases h1 : 1 < r.length + 1
  case pos =>
    have hv2 : ((((⟨(c :: r).toArray⟩ : ByteArray)[0]'(by simp [ByteArray.size])).toNat : Int) == 48) = false := by
      rw [beq_eq_false_iff_ne]; intro h; exact HZ.out ⟨h1, by have : (c.toNat : Int) = 48 := h; omega⟩
    have d1 : decide ((1 : Int) < (r.length : Int) + 1) = true := decide_eq_true (by omega)
    go_wp2_with (go_at_call 52; (with_reducible refine HDG.out.mono ?_); rintro e w7 ⟨rfl, rfl⟩)
    go_loop [6, 7] (fun n i => ∃ k a : Nat, k ≤ r.length + 1 ∧ i = .int .i64 (k : Int) ∧ n = .int .u64 (a : Int) ∧ a = foldV 0 ((c :: r).take k)) (fun _ i => r.length + 1 - (intOf i).toNat)
    case atStart => exact ⟨0, 0, Nat.zero_le _, rfl, rfl, rfl⟩
    case round =>
      obtain ⟨k, a, hk, rfl, rfl, ha⟩ := hrel
      have hb : a < 1000000000000 := by rw [ha]; exact take_bd (c :: r) k HD.out (by simp; omega)
      have HA := shid ha
      clear ha
      by_cases hlt : k < r.length + 1
      · obtain ⟨x, hx⟩ : ∃ x, (c :: r)[k]? = some x := ⟨_, List.getElem?_eq_getElem (by simpa using hlt)⟩
        have hdx : 48 ≤ x.toNat ∧ x.toNat ≤ 57 := by
          have h := HD.out
          unfold alldB at h
          rw [List.all_eq_true] at h
          exact digP_nat (of_decide_eq_true (h x (List.mem_of_getElem? hx)))
        have hsz : k < (⟨(c :: r).toArray⟩ : ByteArray).size := by simpa [ByteArray.size] using hlt
        have hxk : (⟨(c :: r).toArray⟩ : ByteArray)[k]'hsz = x := by
          have := (List.getElem?_eq_some_iff.1 hx).2
          exact this
        have HS := shid (take_step (c :: r) k x hx)
        clear hx
        go_wp2_with fail
        exact ⟨⟨k + 1, 10 * a + (x.toNat - 48), by omega, by go_num, congrArg (Value.int .u64) (by omega), by rw [HS.out, HA.out]⟩, by simp [intOf]; omega⟩
      · obtain rfl : k = r.length + 1 := by omega
        have HV := shid (show a = valS (c :: r) by rw [HA.out, List.take_of_length_le (by simp)]; rfl)
        go_wp2_with fail
        go_ret2
        exact ⟨⟨a, (by rw [HN.out, ← HV.out]; rfl), fun _ => HV.out⟩, rfl⟩
  case neg =>
    have d1 : decide ((1 : Int) < (r.length : Int) + 1) = false := decide_eq_false (by omega)
    go_wp2_with (go_at_call 52; (with_reducible refine HDG.out.mono ?_); rintro e w7 ⟨rfl, rfl⟩)
    go_loop [6, 7] (fun n i => ∃ k a : Nat, k ≤ r.length + 1 ∧ i = .int .i64 (k : Int) ∧ n = .int .u64 (a : Int) ∧ a = foldV 0 ((c :: r).take k)) (fun _ i => r.length + 1 - (intOf i).toNat)
    case atStart => exact ⟨0, 0, Nat.zero_le _, rfl, rfl, rfl⟩
    case round =>
      obtain ⟨k, a, hk, rfl, rfl, ha⟩ := hrel
      have hb : a < 1000000000000 := by rw [ha]; exact take_bd (c :: r) k HD.out (by simp; omega)
      have HA := shid ha
      clear ha
      by_cases hlt : k < r.length + 1
      · obtain ⟨x, hx⟩ : ∃ x, (c :: r)[k]? = some x := ⟨_, List.getElem?_eq_getElem (by simpa using hlt)⟩
        have hdx : 48 ≤ x.toNat ∧ x.toNat ≤ 57 := by
          have h := HD.out
          unfold alldB at h
          rw [List.all_eq_true] at h
          exact digP_nat (of_decide_eq_true (h x (List.mem_of_getElem? hx)))
        have hsz : k < (⟨(c :: r).toArray⟩ : ByteArray).size := by simpa [ByteArray.size] using hlt
        have hxk : (⟨(c :: r).toArray⟩ : ByteArray)[k]'hsz = x := by
          have := (List.getElem?_eq_some_iff.1 hx).2
          exact this
        have HS := shid (take_step (c :: r) k x hx)
        clear hx
        go_wp2_with fail
        exact ⟨⟨k + 1, 10 * a + (x.toNat - 48), by omega, by go_num, congrArg (Value.int .u64) (by omega), by rw [HS.out, HA.out]⟩, by simp [intOf]; omega⟩
      · obtain rfl : k = r.length + 1 := by omega
        have HV := shid (show a = valS (c :: r) by rw [HA.out, List.take_of_length_le (by simp)]; rfl)
        go_wp2_with fail
        go_ret2
        exact ⟨⟨a, (by rw [HN.out, ← HV.out]; rfl), fun _ => HV.out⟩, rfl⟩
theorem rnumber_nil (most : Nat) (w : World) :
    Calls Tryd.prog 40 #[.string ⟨#[]⟩, .int .u64 (most : Int)] w fun e w' => (∃ n : Nat, e = .returned (.tuple #[.int .u64 (n : Int), .bool (numOk most [])]) ∧ (numOk most [] = true → n = valS [])) ∧ w = w' := by
  have hdg : Calls Tryd.prog 52 #[.string ⟨#[]⟩] w fun e w' => e = .returned (.bool false) ∧ w = w' := rdigits_any ⟨#[]⟩ (by decide) w
  have HDG := shid hdg
  have HN := shid (show numOk most [] = false from rfl)
  clear hdg
  go_enter Tryd.func40, Tryd.ntmps40
  go_wp2_with (go_at_call 52; (with_reducible refine HDG.out.mono ?_); rintro e w7 ⟨rfl, rfl⟩)
  go_ret2
  exact ⟨⟨0, by rw [HN.out]; rfl, fun h => by rw [HN.out] at h; cases h⟩, rfl⟩
/-- muntinref12.number, whatever the text is. -/
theorem rnumber_any (l : List UInt8) (most : Nat) (hm : most < 1000000000000) (hs : l.length ≤ 140737488352000) (w : World) :
    Calls Tryd.prog 40 #[.string ⟨l.toArray⟩, .int .u64 (most : Int)] w fun e w' => (∃ n : Nat, e = .returned (.tuple #[.int .u64 (n : Int), .bool (numOk most l)]) ∧ (numOk most l = true → n = valS l)) ∧ w = w' := by
  cases l with
  | nil => exact rnumber_nil most w
  | cons c r => exact rnumber_cons c r most hm hs w
end Go.Proofs.YthnfkecbgfcipaaDoor
