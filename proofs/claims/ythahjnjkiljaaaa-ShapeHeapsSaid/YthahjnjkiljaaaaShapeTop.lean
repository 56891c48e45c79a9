/- The walk of shape.top. -/
import Derived.Test.YthahjnjkiljaaaaShapeOneLaw
namespace Go.Proofs.Ythahjnjkiljaaaa
open Go.RowKit
set_option linter.unusedVariables false
set_option linter.unusedSimpArgs false
/-- A thread does not begin with a function that may be begun with. -/
def badT (fs : List Fnx) (t : Int) : Bool := !decide (0 ≤ t ∧ t < fs.length) || decide (argsOf fs t.toNat ≠ 0)
set_option maxHeartbeats 1000000 in
theorem topf_any (fs : List Fnx) (hp : Int) (tv : Value) (pf : Option Addr) (cf : Nat) (B : Nat) (w : World) (hB : PBox w B hp tv (.slice pf fs.length cf)) (hF : FnsIn w (.slice pf fs.length cf) fs) (t : Int) :
    Calls Try.prog 33 #[.int .i64 t, .pointer (some ⟨B, 0, none⟩)] w fun e w' => e = .returned (.bool (badT fs t)) ∧ w = w' := by
  have hfl := hF.1
  obtain ⟨_, p0, p1, p2⟩ := hB
  have HH := shid (has_any t fs.length w)
  by_cases hk : 0 ≤ t ∧ t < fs.length
  · have HH1 := shid (show Calls Try.prog 34 #[.int .i64 t, .int .i64 (fs.length : Int)] w fun e w' => e = .returned (.bool true) ∧ w = w' by have h := HH.out; unfold hasB at h; rw [decide_eq_true hk] at h; exact h)
    have HBD : Hid (badT fs t = decide (argsOf fs t.toNat ≠ 0)) := shid (by unfold badT; rw [decide_eq_true hk]; rfl)
    obtain ⟨k, rfl⟩ := Int.eq_ofNat_of_zero_le hk.1
    have hkl : k < fs.length := by omega
    obtain ⟨pbb, cbb, b, o, hbe, _, HBS⟩ := hF.hids
    cases hbe
    obtain rfl := HBS.out.1 (by omega)
    have c1 := fnargs_cell HBS.out.2 k hkl
    have h1 : (k : Int) < fs.length := by omega
    rw [HBD.out, show (k : Int).toNat = k from rfl]
    clear hF hk HBD HH
    generalize argsOf fs k = a at c1 ⊢
    by_cases ha : a = 0
    · have hb : (a != 0) = false := by simpa using ha
      have HR := shid (show decide (a ≠ 0) = false from decide_eq_false (fun h => h ha))
      clear ha
      go_enter Try.func33, Try.ntmps33
      go_wp2_with (go_at_call 34; (with_reducible refine HH1.out.mono ?_); rintro e w7 ⟨rfl, rfl⟩)
      go_ret
      exact ⟨sret_val (by rw [HR.out]; rfl), rfl⟩
    · have hb : (a != 0) = true := by simpa using ha
      have HR := shid (show decide (a ≠ 0) = true from decide_eq_true ha)
      clear ha
      go_enter Try.func33, Try.ntmps33
      go_wp2_with (go_at_call 34; (with_reducible refine HH1.out.mono ?_); rintro e w7 ⟨rfl, rfl⟩)
      go_ret
      exact ⟨sret_val (by rw [HR.out]; rfl), rfl⟩
  · have HH1 := shid (show Calls Try.prog 34 #[.int .i64 t, .int .i64 (fs.length : Int)] w fun e w' => e = .returned (.bool false) ∧ w = w' by have h := HH.out; unfold hasB at h; rw [decide_eq_false hk] at h; exact h)
    have HR : Hid (badT fs t = true) := shid (by unfold badT; rw [decide_eq_false hk]; rfl)
    clear hk hF HH
    go_enter Try.func33, Try.ntmps33
    go_wp2_with (go_at_call 34; (with_reducible refine HH1.out.mono ?_); rintro e w7 ⟨rfl, rfl⟩)
    go_ret
    exact ⟨sret_val (by rw [HR.out]; rfl), rfl⟩
set_option maxHeartbeats 1000000 in
theorem index_top (B : Nat) (bad : Int → Bool) (w : World) (v : Value) (l : List Int) (h : IntsIn w v l)
    (HC : Hid (∀ t : Int, Calls Try.prog 33 #[.int .i64 t, .pointer (some ⟨B, 0, none⟩)] w fun e w' => e = .returned (.bool (bad t)) ∧ w = w')) :
    Calls Try.prog 49 #[v, .func (.func 33) #[] #[.pointer (some ⟨B, 0, none⟩)]] w fun e w' => (∃ i : Int, e = .returned (.int .i64 i) ∧ (0 ≤ i ↔ ∃ y ∈ l, bad y = true)) ∧ w = w' := by
  obtain ⟨p, c, b, o, rfl, hl, H⟩ := h.hids
  clear h
  go_enter Try.func49, Try.ntmps49
  go_wp2_with fail
  go_loop [8] (fun i => ∃ k : Nat, k ≤ l.length ∧ i = .int .i64 k ∧ ∀ y ∈ l.take k, bad y = false) (fun i => l.length - (intOf i).toNat)
  case atStart => exact ⟨0, Nat.zero_le _, rfl, by simp⟩
  case round =>
    obtain ⟨k, hk, rfl, hf⟩ := hrel
    have HF := shid hf
    clear hf
    by_cases hlt : k < l.length
    · obtain rfl := H.out.1 (by omega)
      have c1 := (H.out.2 k l[k] (List.getElem?_eq_getElem hlt)).1
      have HT := shid (List.take_succ_eq_append_getElem hlt)
      have HM := shid (List.getElem_mem hlt)
      rw [Nat.mul_one] at c1
      generalize l[k] = y at c1 HT HM
      have HCy := shid (HC.out y)
      generalize hby : bad y = by_ at HCy
      have HBY := shid hby
      clear hby
      cases by_
      case true =>
        go_wp2_with (go_at_call 33; (with_reducible refine HCy.out.mono ?_); rintro e w' ⟨rfl, rfl⟩)
        go_ret
        exact ⟨⟨k, rfl, ⟨fun _ => ⟨y, HM.out, HBY.out⟩, fun _ => by omega⟩⟩, rfl⟩
      case false =>
        go_wp2_with (go_at_call 33; (with_reducible refine HCy.out.mono ?_); rintro e w' ⟨rfl, rfl⟩)
        go_round
        case rel => exact ⟨k + 1, by omega, by go_num, fun z hz => by
          rw [HT.out] at hz
          rcases List.mem_append.1 hz with h | h
          · exact HF.out z h
          · simp at h; rw [h]; exact HBY.out⟩
        case measure => simp [intOf]; omega
    · go_wp2_with fail
      go_ret
      have h1 := HF.out
      rw [List.take_of_length_le (by omega)] at h1
      exact ⟨⟨-1, rfl, ⟨fun h => by omega, fun ⟨y, hy, hn⟩ => by rw [h1 y hy] at hn; cases hn⟩⟩, rfl⟩
theorem contains_top (B : Nat) (bad : Int → Bool) (w : World) (v : Value) (l : List Int) (h : IntsIn w v l)
    (HC : Hid (∀ t : Int, Calls Try.prog 33 #[.int .i64 t, .pointer (some ⟨B, 0, none⟩)] w fun e w' => e = .returned (.bool (bad t)) ∧ w = w')) :
    Calls Try.prog 32 #[v, .func (.func 33) #[] #[.pointer (some ⟨B, 0, none⟩)]] w fun e w' => e = .returned (.bool (l.any bad)) ∧ w = w' := by
  have HI := shid (index_top B bad w v l h HC)
  have HB : Hid (∀ i : Int, (0 ≤ i ↔ ∃ y ∈ l, bad y = true) → decide (0 ≤ i) = l.any bad) := shid fun i hi => by
    rw [Bool.eq_iff_iff]
    simp [hi]
  obtain ⟨p, c, rfl⟩ := h.shape
  clear h HC
  go_enter Try.func32, Try.ntmps32
  go_wp2_with fail
  refine HI.out.mono ?_
  rintro e w' ⟨⟨i, rfl, hi⟩, rfl⟩
  have HJ := shid (HB.out i hi)
  clear hi HB
  go_wp2_with fail
  go_ret
  exact ⟨sret_val (by rw [← HJ.out]; rfl), rfl⟩
/-- Whether a program may be, but for its functions. -/
def topB (p : Prg) : Bool :=
  decide (0 ≤ p.heap ∧ p.heap ≤ 1024 ∧ 1 ≤ p.funcs.length ∧ p.funcs.length ≤ 64 ∧ 1 ≤ p.threads.length ∧ p.threads.length ≤ 4) && !p.threads.any (badT p.funcs)
set_option maxRecDepth 100000 in
set_option maxHeartbeats 2000000 in
theorem top_any (p : Prg) (pt : Option Addr) (ct : Nat) (pf : Option Addr) (cf : Nat) (w : World) (hT : IntsIn w (.slice pt p.threads.length ct) p.threads) (hF : FnsIn w (.slice pf p.funcs.length cf) p.funcs) :
    Calls Try.prog 17 #[.agg #[.int .i64 p.heap, .slice pt p.threads.length ct, .slice pf p.funcs.length cf]] w fun e w' => e = .returned (.bool (topB p)) ∧ Below w.heap.size w w' := by
  have htl := hT.1
  have hfl := hF.1
  have HW0 := shid (al1 w (.cells #[.int .i64 p.heap, .slice pt p.threads.length ct, .slice pf p.funcs.length cf] 25))
  have HPB := shid (PBox.new w p.heap (.slice pt p.threads.length ct) (.slice pf p.funcs.length cf) 25)
  have HCT := shid (contains_top w.heap.size (badT p.funcs) _ _ p.threads (IntsIn.keep hT HW0.out) (shid fun t => topf_any p.funcs p.heap _ pf cf w.heap.size _ HPB.out (FnsIn.keep hF HW0.out) t))
  have HTB := shid (show topB p = (decide (0 ≤ p.heap ∧ p.heap ≤ 1024 ∧ 1 ≤ p.funcs.length ∧ p.funcs.length ≤ 64 ∧ 1 ≤ p.threads.length ∧ p.threads.length ≤ 4) && !p.threads.any (badT p.funcs)) from rfl)
  clear hT hF
  generalize p.threads.any (badT p.funcs) = ab at HCT HTB
  obtain ⟨_, p0, p1, p2⟩ := HPB.out
  by_cases hk : 0 ≤ p.heap ∧ p.heap ≤ 1024 ∧ 1 ≤ p.funcs.length ∧ p.funcs.length ≤ 64 ∧ 1 ≤ p.threads.length ∧ p.threads.length ≤ 4
  · have HR : Hid (topB p = !ab) := shid (by rw [HTB.out, decide_eq_true hk]; rfl)
    obtain ⟨k1, k2, k3, k4, k5, k6⟩ := hk
    have q1 : decide (p.heap < 0) = false := decide_eq_false (by omega)
    have q2 : decide (1024 < p.heap) = false := decide_eq_false (by omega)
    have q3 : decide ((p.funcs.length : Int) < 1) = false := decide_eq_false (by omega)
    have q4 : decide ((64 : Int) < p.funcs.length) = false := decide_eq_false (by omega)
    have q5 : decide ((p.threads.length : Int) < 1) = false := decide_eq_false (by omega)
    have q6 : decide ((4 : Int) < p.threads.length) = false := decide_eq_false (by omega)
    clear k1 k2 k3 k4 k5 k6
    go_enter Try.func17, Try.ntmps17
    go_wp2_with (go_at_call 32; (with_reducible refine HCT.out.mono ?_); rintro e w' ⟨rfl, rfl⟩)
    go_ret
    exact ⟨sret_val (by rw [HR.out]; rfl), HW0.out⟩
  · have HR : Hid (topB p = false) := shid (by rw [HTB.out, decide_eq_false hk]; rfl)
    clear HCT
    go_enter Try.func17, Try.ntmps17
    go_wp2_with fail
    all_goals first
      | (go_ret; exact ⟨sret_val (by rw [HR.out]; rfl), HW0.out⟩)
      | (exfalso; apply hk; simp at *; omega)
end Go.Proofs.Ythahjnjkiljaaaa
