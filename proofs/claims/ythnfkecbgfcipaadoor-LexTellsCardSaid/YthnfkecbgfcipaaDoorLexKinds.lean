/- The six kinds of words, and the token of a word. -/
import Derived.Test.YthnfkecbgfcipaaDoorLexSmall
import Derived.Handy
namespace Go.Proofs.YthnfkecbgfcipaaDoor
open Go.RowKit
set_option linter.unusedVariables false
set_option linter.unusedSimpArgs false
/-- What a word is by each of the kinds. -/
def kindS (k : Nat) (s : List UInt8) : Option (List UInt8 × Nat) :=
  if k = 0 then (if s = [123] then some (s, 0) else none)
  else if k = 1 then (if s = [125] then some (s, 0) else none)
  else if k = 2 then (if begins 118 s && numOk 4095 s.tail then some (s, valS s.tail) else none)
  else if k = 3 then (match numT s with | some n => some (s, n) | none => none)
  else if k = 4 then (if endsColon s && nameB s.dropLast then some (s.dropLast, 0) else none)
  else (if nameB s then some (s, 0) else none)
theorem tokB_kinds (s : List UInt8) : tokB s = match kindS 0 s with
    | some (t, n) => some (4, t, n)
    | none => match kindS 1 s with
      | some (t, n) => some (5, t, n)
      | none => match kindS 2 s with
        | some (t, n) => some (2, t, n)
        | none => match kindS 3 s with
          | some (t, n) => some (3, t, n)
          | none => match kindS 4 s with
            | some (t, n) => some (1, t, n)
            | none => match kindS 5 s with
              | some (t, n) => some (0, t, n)
              | none => none := by
  unfold tokB
  show _ = _
  simp only [kindS, if_true, Nat.one_ne_zero, if_false, show ¬ ((2 : Nat) = 0) by decide, show ¬ ((2 : Nat) = 1) by decide, show ¬ ((3 : Nat) = 0) by decide, show ¬ ((3 : Nat) = 1) by decide, show ¬ ((3 : Nat) = 2) by decide, show ¬ ((4 : Nat) = 0) by decide, show ¬ ((4 : Nat) = 1) by decide, show ¬ ((4 : Nat) = 2) by decide, show ¬ ((4 : Nat) = 3) by decide, show ¬ ((5 : Nat) = 0) by decide, show ¬ ((5 : Nat) = 1) by decide, show ¬ ((5 : Nat) = 2) by decide, show ¬ ((5 : Nat) = 3) by decide, show ¬ ((5 : Nat) = 4) by decide]
  by_cases h0 : s = [123]
  · rw [if_pos h0, if_pos h0]
  rw [if_neg h0, if_neg h0]
  by_cases h1 : s = [125]
  · simp only [if_pos h1]
  simp only [if_neg h1]
  by_cases h2 : (begins 118 s && numOk 4095 s.tail) = true
  · simp only [if_pos h2]
  simp only [if_neg h2]
  cases numT s with
  | some n => rfl
  | none =>
    simp only
    by_cases h4 : (endsColon s && nameB s.dropLast) = true
    · simp only [if_pos h4]
    simp only [if_neg h4]
    by_cases h5 : nameB s = true
    · simp only [if_pos h5]
    · simp only [if_neg h5]
def KindOk (k : Nat) (s : List UInt8) (w : World) (e : Ending) (w' : World) : Prop :=
  (∃ (t : List UInt8) (n : Int), e = .returned (.tuple #[.string ⟨t.toArray⟩, .int .u32 n, .bool (kindS k s).isSome]) ∧ ∀ x, kindS k s = some x → t = x.1 ∧ n = (x.2 : Nat)) ∧ Below w.heap.size w w'
theorem beq_list (a b : List UInt8) : (a == b) = decide (a = b) := by
  by_cases h : a = b
  · subst h; rw [beq_self_eq_true, decide_eq_true rfl]
  · rw [decide_eq_false h, beq_eq_false_iff_ne]; exact h
theorem beq_str (a : ByteArray) (b : List UInt8) : (a.toList == b) = decide (a.data.toList = b) := by
  rw [ByteArray.toList_eq]; exact beq_list _ _
theorem kind0_any (s : ByteArray) (w : World) : Calls Tryd.prog 26 #[.string s] w (KindOk 0 s.data.toList w) := by
  have hs := beq_str s [123]
  go_enter Tryd.func26, Tryd.ntmps26
  go_wp2_with fail
  go_ret3
  refine ⟨⟨s.data.toList, 0, ?_, ?_⟩, Below.refl _ _⟩
  · refine congrArg (fun b => Ending.returned (.tuple #[.string s, .int .u32 0, .bool b])) ?_
    unfold kindS
    rw [if_pos rfl]
    by_cases h : s.data.toList = [123]
    · rw [if_pos h]; exact decide_eq_true h
    · rw [if_neg h]; exact decide_eq_false h
  · intro x hx
    unfold kindS at hx
    rw [if_pos rfl] at hx
    split at hx
    · cases hx; exact ⟨rfl, rfl⟩
    · cases hx
theorem kind1_any (s : ByteArray) (w : World) : Calls Tryd.prog 27 #[.string s] w (KindOk 1 s.data.toList w) := by
  have hs := beq_str s [125]
  go_enter Tryd.func27, Tryd.ntmps27
  go_wp2_with fail
  go_ret3
  refine ⟨⟨s.data.toList, 0, ?_, ?_⟩, Below.refl _ _⟩
  · refine congrArg (fun b => Ending.returned (.tuple #[.string s, .int .u32 0, .bool b])) ?_
    unfold kindS
    rw [if_neg (by decide), if_pos rfl]
    by_cases h : s.data.toList = [125]
    · rw [if_pos h]; exact decide_eq_true h
    · rw [if_neg h]; exact decide_eq_false h
  · intro x hx
    unfold kindS at hx
    rw [if_neg (by decide), if_pos rfl] at hx
    split at hx
    · cases hx; exact ⟨rfl, rfl⟩
    · cases hx
theorem prefix_one (c : UInt8) (s : List UInt8) : Lib.hasPrefix s [c] = begins c.toNat s := by
  cases s with
  | nil => rfl
  | cons x r =>
    show (c == x && true) = decide (x.toNat = c.toNat)
    rw [Bool.and_true]
    by_cases h : x = c
    · subst h; simp
    · rw [show (c == x) = false by rw [beq_eq_false_iff_ne]; exact fun e => h e.symm, decide_eq_false (fun e => h (UInt8.toNat_inj.1 e))]
theorem trim_one (c : UInt8) (s : List UInt8) (h : begins c.toNat s = true) : Lib.trimPrefix s [c] = s.tail := by
  unfold Lib.trimPrefix
  rw [prefix_one, if_pos h]
  cases s <;> rfl
theorem trim_len (s : ByteArray) (c : UInt8) (hs : s.size ≤ 140737488352000) : (Lib.trimPrefix s.data.toList [c]).length ≤ 140737488352000 := by
  rw [Lib.size_eq] at hs
  unfold Lib.trimPrefix
  split
  · rw [List.length_drop]; omega
  · exact hs
theorem mk_size (l : List UInt8) (h : l.length ≤ 140737488352000) : (⟨l.toArray⟩ : ByteArray).size ≤ 140737488352000 := by rw [Lib.size_eq]; exact h
set_option maxHeartbeats 1000000 in
theorem kind2_any (s : ByteArray) (hs : s.size ≤ 140737488352000) (w : World) (hW : LexW w) : Calls Tryd.prog 28 #[.string s] w (KindOk 2 s.data.toList w) := by
  have hlen : (Lib.trimPrefix s.data.toList [118]).length ≤ 140737488352000 := by
    exact trim_len _ _ hs
  have HC := shid (fun W => Any.strings_CutPrefix cutpLays s ⟨#[118]⟩ W)
  have HN := shid (number_any 4095 (by decide) ⟨(Lib.trimPrefix s.data.toList [118]).toArray⟩ (mk_size _ hlen) w hW)
  have HP := shid (prefix_one 118 s.data.toList)
  have HT := shid (trim_one 118 s.data.toList)
  have HK := shid (show kindS 2 s.data.toList = if begins 118 s.data.toList && numOk 4095 s.data.toList.tail then some (s.data.toList, valS s.data.toList.tail) else none from rfl)
  clear hlen
  go_enter Tryd.func28, Tryd.ntmps28
  go_wp2_with fail
  go_at_call 29
  refine (HC.out _).mono ?_
  rintro e w1 ⟨rfl, rfl⟩
  go_wp2_with fail
  go_at_call 30
  refine HN.out.mono ?_
  rintro e w2 ⟨⟨n, rfl, hn⟩, hb⟩
  have HB := shid hb
  have HV := shid hn
  clear hb hn
  cases hp : begins 118 s.data.toList with
  | false =>
    have h1 : Lib.hasPrefix s.data.toList [118] = false := HP.out.trans hp
    have HE := shid (show kindS 2 s.data.toList = none by rw [HK.out, hp]; rfl)
    clear hp
    go_wp2_with fail
    go_ret3
    exact ⟨⟨s.data.toList, n, by rw [HE.out]; rfl, fun x hx => by rw [HE.out] at hx; cases hx⟩, HB.out⟩
  | true =>
    have h1 : Lib.hasPrefix s.data.toList [118] = true := HP.out.trans hp
    have HE := shid (show kindS 2 s.data.toList = if numOk 4095 s.data.toList.tail then some (s.data.toList, valS s.data.toList.tail) else none by rw [HK.out, hp, Bool.true_and])
    have HV2 := shid (by have h := HV.out; simp only [HT.out hp] at h; exact h)
    have HQ := shid (show numOk 4095 (Lib.trimPrefix s.data.toList [118]) = numOk 4095 s.data.toList.tail by rw [HT.out hp])
    clear hp HK
    go_wp2_with fail
    go_ret3
    refine ⟨⟨s.data.toList, n, ?_, fun x hx => ?_⟩, HB.out⟩
    · show Ending.returned (.tuple #[.string s, .int .u32 n, .bool (numOk 4095 (Lib.trimPrefix s.data.toList [118]))]) = _
      rw [HE.out, HQ.out]
      cases numOk 4095 s.data.toList.tail <;> rfl
    · rw [HE.out] at hx
      cases hq : numOk 4095 s.data.toList.tail with
      | false => rw [hq] at hx; cases hx
      | true => rw [hq] at hx; cases hx; exact ⟨rfl, HV2.out hq⟩
theorem wrap32 (n : Int) (h0 : 0 ≤ n) (h1 : n < 4294967296) : IntKind.wrap .u32 n = n := by simp [IntKind.wrap, IntKind.bits, IntKind.signed]; omega
theorem wrap32_neg (n : Int) (h0 : 0 < n) (h1 : n ≤ 4294967296) : IntKind.wrap .u32 (-n) = 4294967296 - n := by simp [IntKind.wrap, IntKind.bits, IntKind.signed]; omega
theorem numOk_le {most : Nat} {s : List UInt8} (h : numOk most s = true) : valS s ≤ most := by
  unfold numOk at h
  rw [Bool.and_eq_true] at h
  exact of_decide_eq_true h.2
set_option maxHeartbeats 1000000 in
theorem kind3_any (s : ByteArray) (hs : s.size ≤ 140737488352000) (w : World) (hW : LexW w) : Calls Tryd.prog 31 #[.string s] w (KindOk 3 s.data.toList w) := by
  have HC := shid (fun W => Any.strings_CutPrefix cutpLays s ⟨#[45]⟩ W)
  have HP := shid (prefix_one 45 s.data.toList)
  have HT := shid (trim_one 45 s.data.toList)
  have HK := shid (show kindS 3 s.data.toList = match (if begins 45 s.data.toList then (if numOk 2147483648 s.data.toList.tail && decide (0 < valS s.data.toList.tail) then some (4294967296 - valS s.data.toList.tail) else none)
  else if numOk 4294967295 s.data.toList then some (valS s.data.toList) else none) with | some n => some (s.data.toList, n) | none => none from rfl)
  cases hp : begins 45 s.data.toList with
  | false =>
    have HN := shid (number_any 4294967295 (by decide) s hs w hW)
    have h1 : Lib.hasPrefix s.data.toList [45] = false := HP.out.trans hp
    have HE := shid (show kindS 3 s.data.toList = if numOk 4294967295 s.data.toList then some (s.data.toList, valS s.data.toList) else none by
      rw [HK.out, hp]; cases numOk 4294967295 s.data.toList <;> rfl)
    clear hp HK HP HT
    go_enter Tryd.func31, Tryd.ntmps31
    go_wp2_with fail
    go_at_call 29
    refine (HC.out _).mono ?_
    rintro e w1 ⟨rfl, rfl⟩
    go_wp2_with fail
    go_at_call 30
    refine HN.out.mono ?_
    rintro e w2 ⟨⟨n, rfl, hn⟩, hb⟩
    have HB := shid hb
    have HV := shid hn
    clear hb hn
    go_wp2_with fail
    go_ret3
    refine ⟨⟨s.data.toList, n, ?_, fun x hx => ?_⟩, HB.out⟩
    · rw [HE.out]
      cases numOk 4294967295 s.data.toList <;> rfl
    · rw [HE.out] at hx
      cases hq : numOk 4294967295 s.data.toList with
      | false => rw [hq] at hx; cases hx
      | true => rw [hq] at hx; cases hx; exact ⟨rfl, HV.out hq⟩
  | true =>
    have h1 : Lib.hasPrefix s.data.toList [45] = true := HP.out.trans hp
    have HE := shid (show kindS 3 s.data.toList = if numOk 2147483648 s.data.toList.tail && decide (0 < valS s.data.toList.tail) then some (s.data.toList, 4294967296 - valS s.data.toList.tail) else none by
      rw [HK.out, hp]; cases (numOk 2147483648 s.data.toList.tail && decide (0 < valS s.data.toList.tail)) <;> rfl)
    have HN := shid (by
      have h := number_any 2147483648 (by decide) ⟨(Lib.trimPrefix s.data.toList [45]).toArray⟩ (mk_size _ (trim_len s 45 hs)) w hW
      rw [show (⟨(Lib.trimPrefix s.data.toList [45]).toArray⟩ : ByteArray).data.toList = s.data.toList.tail by rw [trim_one 45 _ hp]] at h
      exact h)
    clear hp HK HP HT
    generalize hq : numOk 2147483648 s.data.toList.tail = q at HE HN
    have HQ := shid hq
    clear hq
    go_enter Tryd.func31, Tryd.ntmps31
    go_wp2_with fail
    go_at_call 29
    refine (HC.out _).mono ?_
    rintro e w1 ⟨rfl, rfl⟩
    go_wp2_with fail
    go_at_call 30
    refine HN.out.mono ?_
    rintro e w2 ⟨⟨n, rfl, hn⟩, hb⟩
    have HB := shid hb
    have HV := shid hn
    clear hb hn
    cases q with
    | false =>
      go_wp2_with fail
      go_ret3
      exact ⟨⟨s.data.toList, _, by rw [HE.out]; rfl, fun x hx => by rw [HE.out] at hx; cases hx⟩, HB.out⟩
    | true =>
      have hn := HV.out rfl
      have hle := numOk_le HQ.out
      subst hn
      by_cases h0 : 0 < valS s.data.toList.tail
      · have hd : decide (0 < valS s.data.toList.tail) = true := decide_eq_true h0
        have hd2 : decide ((0 : Int) < (valS s.data.toList.tail : Nat)) = true := decide_eq_true (by omega)
        have hw : IntKind.wrap .u32 (-((valS s.data.toList.tail : Nat) : Int)) = ((4294967296 - valS s.data.toList.tail : Nat) : Int) := by rw [wrap32_neg _ (by omega) (by omega)]; omega
        have HE2 := shid (show kindS 3 s.data.toList = some (s.data.toList, 4294967296 - valS s.data.toList.tail) by rw [HE.out, decide_eq_true h0]; rfl)
        clear h0 hle HE
        go_wp2_with fail
        go_ret3
        exact ⟨⟨s.data.toList, ((4294967296 - valS s.data.toList.tail : Nat) : Int), by rw [HE2.out]; rfl, fun x hx => by rw [HE2.out] at hx; cases hx; exact ⟨rfl, rfl⟩⟩, HB.out⟩
      · have hd : decide (0 < valS s.data.toList.tail) = false := decide_eq_false h0
        have hd2 : decide ((0 : Int) < (valS s.data.toList.tail : Nat)) = false := decide_eq_false (by omega)
        have HE2 := shid (show kindS 3 s.data.toList = none by rw [HE.out, decide_eq_false h0]; rfl)
        clear h0 hle HE
        go_wp2_with fail
        go_ret3
        exact ⟨⟨s.data.toList, _, by rw [HE2.out]; rfl, fun x hx => by rw [HE2.out] at hx; cases hx⟩, HB.out⟩
theorem suffix_one (s : List UInt8) : Lib.hasSuffix s [58] = endsColon s := by
  unfold Lib.hasSuffix endsColon
  rw [Bool.eq_iff_iff, List.isSuffixOf_iff_suffix]
  rcases List.eq_nil_or_concat s with rfl | ⟨r, c, rfl⟩
  · simp
  · rw [List.concat_eq_append, List.getLast?_append]
    simp only [List.getLast?_singleton, Option.some_or, decide_eq_true_eq]
    constructor
    · intro h
      obtain ⟨t, ht⟩ := h
      have h2 := List.append_inj_right' ht rfl
      cases h2; rfl
    · intro h
      have : c = 58 := UInt8.toNat_inj.1 h
      subst this
      exact ⟨r, rfl⟩
theorem trims_one (s : List UInt8) (h : endsColon s = true) : Lib.trimSuffix s [58] = s.dropLast := by
  unfold Lib.trimSuffix
  rw [suffix_one, if_pos h, List.dropLast_eq_take]
  rfl
set_option maxHeartbeats 1000000 in
theorem kind4_any (s : ByteArray) (hs : s.size ≤ 140737488352000) (w : World) : Calls Tryd.prog 32 #[.string s] w (KindOk 4 s.data.toList w) := by
  have HC := shid (fun W => Any.strings_CutSuffix cutsLays s ⟨#[58]⟩ W (by omega))
  have HP := shid (suffix_one s.data.toList)
  have HT := shid (trims_one s.data.toList)
  have HK := shid (show kindS 4 s.data.toList = if endsColon s.data.toList && nameB s.data.toList.dropLast then some (s.data.toList.dropLast, 0) else none from rfl)
  cases hp : endsColon s.data.toList with
  | false =>
    have h1 : Lib.hasSuffix s.data.toList [58] = false := HP.out.trans hp
    have HE := shid (show kindS 4 s.data.toList = none by rw [HK.out, hp]; rfl)
    clear hp HK HP HT
    go_enter Tryd.func32, Tryd.ntmps32
    go_wp2_with fail
    go_at_call 33
    refine (HC.out _).mono ?_
    rintro e w1 ⟨rfl, rfl⟩
    go_wp2_with fail
    go_ret3
    exact ⟨⟨_, 0, by rw [HE.out]; rfl, fun x hx => by rw [HE.out] at hx; cases hx⟩, Below.refl _ _⟩
  | true =>
    have h1 : Lib.hasSuffix s.data.toList [58] = true := HP.out.trans hp
    have he := HT.out hp
    have HE := shid (show kindS 4 s.data.toList = if nameB s.data.toList.dropLast then some (s.data.toList.dropLast, 0) else none by rw [HK.out, hp, Bool.true_and])
    have HN := shid (by
      have h := name_any ⟨(Lib.trimSuffix s.data.toList [58]).toArray⟩ (mk_size _ (by rw [he, List.length_dropLast]; rw [Lib.size_eq] at hs; omega)) w
      rw [show (⟨(Lib.trimSuffix s.data.toList [58]).toArray⟩ : ByteArray).data.toList = s.data.toList.dropLast by rw [he]] at h
      exact h)
    have HX := shid he
    clear hp HK HP HT he
    generalize hq : nameB s.data.toList.dropLast = q at HE HN
    clear hq
    go_enter Tryd.func32, Tryd.ntmps32
    go_wp2_with fail
    go_at_call 33
    refine (HC.out _).mono ?_
    rintro e w1 ⟨rfl, rfl⟩
    go_wp2_with fail
    go_at_call 34
    refine HN.out.mono ?_
    rintro e w2 ⟨rfl, rfl⟩
    go_wp2_with fail
    go_ret3
    refine ⟨⟨Lib.trimSuffix s.data.toList [58], 0, ?_, fun x hx => ?_⟩, Below.refl _ _⟩
    · rw [HE.out]; cases q <;> rfl
    · rw [HE.out] at hx
      cases q with
      | false => cases hx
      | true => cases hx; exact ⟨HX.out, rfl⟩
theorem kind5_any (s : ByteArray) (hs : s.size ≤ 140737488352000) (w : World) : Calls Tryd.prog 35 #[.string s] w (KindOk 5 s.data.toList w) := by
  have HN := shid (name_any s hs w)
  have HE := shid (show kindS 5 s.data.toList = if nameB s.data.toList then some (s.data.toList, 0) else none from rfl)
  generalize hq : nameB s.data.toList = q at HE HN
  clear hq
  go_enter Tryd.func35, Tryd.ntmps35
  go_wp2_with fail
  go_at_call 34
  refine HN.out.mono ?_
  rintro e w2 ⟨rfl, rfl⟩
  go_wp2_with fail
  go_ret3
  refine ⟨⟨s.data.toList, 0, ?_, fun x hx => ?_⟩, Below.refl _ _⟩
  · rw [HE.out]; cases q <;> rfl
  · rw [HE.out] at hx
    cases q with
    | false => cases hx
    | true => cases hx; exact ⟨rfl, rfl⟩
end Go.Proofs.YthnfkecbgfcipaaDoor
