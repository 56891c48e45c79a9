/- Several texts in one: BootLeads, BootZeros, BootWordsWalk. -/
import Derived.Test.YtkejnhleajfcjaaGreatDoorGQ
import Derived.Test.YtkejnhleajfcjaaGreatDoorGN
import Derived.Test.YtkejnhleajfcjaaGreatDoorGS
/- The vectors of a runtime, plain; reckoned for every number of windows. No walk. -/
namespace Go.Proofs.YtkejnhleajfcjaaGreatDoor
open Go.RowKit
set_option linter.unusedVariables false
set_option linter.unusedSimpArgs false
theorem kit_zero (nw : Nat) {k : Nat} (h : k < 64) : (kitL nw).getD k 0 = 0 := by
  unfold kitL
  rw [List.getD_eq_getElem?_getD, List.getElem?_append_left (by rw [List.length_replicate]; exact h), List.getElem?_replicate, if_pos h]; rfl
def rettW : Int := 2147483648
def leadTo (l : List Int) (k : Nat) : Int := ((64 + 4 * k : Nat) : Int) + l.getD (64 + 4 * k) 0 % 2097152
def leadAt (l : List Int) (k : Nat) : Int := if typP k then 4 * leadTo l k else 0
def leadOk (l : List Int) (k : Nat) : Bool :=
  (l.getD (64 + 4 * k + 1) 0 == rettW) && (l.getD (64 + 4 * k + 2) 0 == rettW) && (l.getD (64 + 4 * k + 3) 0 == rettW) &&
  (if typP k then (l.getD (64 + 4 * k) 0 / 2097152 == 544) && decide (192 ≤ leadTo l k) && decide (leadTo l k < (l.length : Int)) else l.getD (64 + 4 * k) 0 == rettW)
def tos (l : List Int) (k : Nat) : List Int := ((List.range k).filter (fun (i : Nat) => decide (typP i))).map (leadAt l)
def leadsF (l : List Int) (n : Int) : Bool := (List.range 32).all fun k => leadOk l k && (!decide (typP k) || (!(tos l k).contains (leadAt l k) && decide (leadAt l k < 256 + 4 * n)))
theorem tos_succ (l : List Int) (k : Nat) : tos l (k + 1) = if typP k then tos l k ++ [leadAt l k] else tos l k := by
  unfold tos
  rw [List.range_succ, List.filter_append, List.map_append]
  by_cases h : typP k
  · rw [if_pos h]; simp [h]
  · rw [if_neg h]; simp [h]
theorem tos_len (l : List Int) (k : Nat) : (tos l k).length ≤ k := by
  unfold tos
  rw [List.length_map]
  exact Nat.le_trans (List.length_filter_le _ _) (by simp)
theorem leadsF_at {l : List Int} {n : Int} (h : leadsF l n = true) {k : Nat} (hk : k < 32) :
    (l.getD (64 + 4 * k + 1) 0 = rettW ∧ l.getD (64 + 4 * k + 2) 0 = rettW ∧ l.getD (64 + 4 * k + 3) 0 = rettW) ∧
    (typP k → l.getD (64 + 4 * k) 0 / 2097152 = 544 ∧ 192 ≤ leadTo l k ∧ leadTo l k < l.length ∧ leadAt l k ∉ tos l k ∧ leadAt l k < 256 + 4 * n) ∧ (¬ typP k → l.getD (64 + 4 * k) 0 = rettW) := by
  have h1 := List.all_eq_true.1 h k (List.mem_range.2 hk)
  unfold leadOk at h1
  simp only [Bool.and_eq_true, beq_iff_eq, Bool.or_eq_true, Bool.not_eq_true', decide_eq_false_iff_not, decide_eq_true_eq] at h1
  obtain ⟨⟨⟨⟨a, b⟩, c⟩, d⟩, e⟩ := h1
  refine ⟨⟨a, b, c⟩, fun ht => ?_, fun ht => ?_⟩
  · rw [if_pos ht] at d
    simp only [Bool.and_eq_true, beq_iff_eq, decide_eq_true_eq] at d
    rcases e with e | ⟨e1, e2⟩
    · exact absurd ht e
    · refine ⟨d.1.1, d.1.2, d.2, fun hm => ?_, e2⟩
      have := List.contains_iff_mem.2 hm
      rw [this] at e1; cases e1
  · rw [if_neg ht] at d
    simpa using d
theorem boot_leads2 : leadsF (kitL 2) (bootN 2) = true := by kernel_rfl
theorem boot_leads3 : leadsF (kitL 3) (bootN 3) = true := by kernel_rfl
theorem boot_leads4 : leadsF (kitL 4) (bootN 4) = true := by kernel_rfl
theorem boot_leads5 : leadsF (kitL 5) (bootN 5) = true := by kernel_rfl
theorem boot_leads6 : leadsF (kitL 6) (bootN 6) = true := by kernel_rfl
theorem boot_leads7 : leadsF (kitL 7) (bootN 7) = true := by kernel_rfl
theorem boot_leads8 : leadsF (kitL 8) (bootN 8) = true := by kernel_rfl
theorem boot_leads9 : leadsF (kitL 9) (bootN 9) = true := by kernel_rfl
theorem boot_leads10 : leadsF (kitL 10) (bootN 10) = true := by kernel_rfl
theorem boot_leads11 : leadsF (kitL 11) (bootN 11) = true := by kernel_rfl
theorem boot_leads12 : leadsF (kitL 12) (bootN 12) = true := by kernel_rfl
theorem boot_leads13 : leadsF (kitL 13) (bootN 13) = true := by kernel_rfl
theorem boot_leads14 : leadsF (kitL 14) (bootN 14) = true := by kernel_rfl
theorem boot_leads15 : leadsF (kitL 15) (bootN 15) = true := by kernel_rfl
theorem boot_leads16 : leadsF (kitL 16) (bootN 16) = true := by kernel_rfl
theorem boot_leads17 : leadsF (kitL 17) (bootN 17) = true := by kernel_rfl
theorem boot_leads18 : leadsF (kitL 18) (bootN 18) = true := by kernel_rfl
theorem boot_leads19 : leadsF (kitL 19) (bootN 19) = true := by kernel_rfl
theorem boot_leads20 : leadsF (kitL 20) (bootN 20) = true := by kernel_rfl
theorem boot_leads21 : leadsF (kitL 21) (bootN 21) = true := by kernel_rfl
theorem boot_leads22 : leadsF (kitL 22) (bootN 22) = true := by kernel_rfl
theorem boot_leads23 : leadsF (kitL 23) (bootN 23) = true := by kernel_rfl
theorem boot_leads24 : leadsF (kitL 24) (bootN 24) = true := by kernel_rfl
theorem boot_leads25 : leadsF (kitL 25) (bootN 25) = true := by kernel_rfl
theorem boot_leads26 : leadsF (kitL 26) (bootN 26) = true := by kernel_rfl
theorem boot_leads27 : leadsF (kitL 27) (bootN 27) = true := by kernel_rfl
theorem boot_leads28 : leadsF (kitL 28) (bootN 28) = true := by kernel_rfl
theorem boot_leads29 : leadsF (kitL 29) (bootN 29) = true := by kernel_rfl
theorem boot_leads30 : leadsF (kitL 30) (bootN 30) = true := by kernel_rfl
theorem boot_leads31 : leadsF (kitL 31) (bootN 31) = true := by kernel_rfl
theorem boot_leads32 : leadsF (kitL 32) (bootN 32) = true := by kernel_rfl
theorem boot_leads : ∀ {nw : Nat}, 2 ≤ nw → nw ≤ 32 → leadsF (kitL nw) (bootN nw) = true
  | 2, _, _ => boot_leads2
  | 3, _, _ => boot_leads3
  | 4, _, _ => boot_leads4
  | 5, _, _ => boot_leads5
  | 6, _, _ => boot_leads6
  | 7, _, _ => boot_leads7
  | 8, _, _ => boot_leads8
  | 9, _, _ => boot_leads9
  | 10, _, _ => boot_leads10
  | 11, _, _ => boot_leads11
  | 12, _, _ => boot_leads12
  | 13, _, _ => boot_leads13
  | 14, _, _ => boot_leads14
  | 15, _, _ => boot_leads15
  | 16, _, _ => boot_leads16
  | 17, _, _ => boot_leads17
  | 18, _, _ => boot_leads18
  | 19, _, _ => boot_leads19
  | 20, _, _ => boot_leads20
  | 21, _, _ => boot_leads21
  | 22, _, _ => boot_leads22
  | 23, _, _ => boot_leads23
  | 24, _, _ => boot_leads24
  | 25, _, _ => boot_leads25
  | 26, _, _ => boot_leads26
  | 27, _, _ => boot_leads27
  | 28, _, _ => boot_leads28
  | 29, _, _ => boot_leads29
  | 30, _, _ => boot_leads30
  | 31, _, _ => boot_leads31
  | 32, _, _ => boot_leads32
  | 0, h, _ => absurd h (by omega)
  | 1, h, _ => absurd h (by omega)
  | n + 33, _, h => absurd h (by omega)
end Go.Proofs.YtkejnhleajfcjaaGreatDoor
/- Walks of muntinref11 and muntinlaw11: has, Zeros, Leads. -/
namespace Go.Proofs.YtkejnhleajfcjaaGreatDoor
open Go.RowKit
set_option linter.unusedVariables false
set_option linter.unusedSimpArgs false
attribute [local irreducible] bootW bootN Bs.boot kitL
def i64r (l : List Int) : List Value := l.map (.int .i64)
theorem i64_form {w : World} {base : Nat} {v : Value} {l : List Int} (h : w.ownsRow base 3 1 v l.length (i64r l)) : ∃ g p c, v = .slice p l.length c ∧ (0 < l.length → p = some ⟨g, 0, none⟩) ∧ ∀ k, k < l.length → w.cell? ⟨g, k, none⟩ = some (.int .i64 (l.getD k 0)) := by
  by_cases h0 : 0 < l.length
  · obtain ⟨g, c, rfl, -, -⟩ := h.form h0
    refine ⟨g, _, c, rfl, fun _ => rfl, fun k hk => ?_⟩
    have := h.cells rfl k (.int .i64 (l.getD k 0)) (by unfold i64r; rw [List.getElem?_map, List.getElem?_eq_getElem hk, List.getD_eq_getElem?_getD, List.getElem?_eq_getElem hk]; rfl)
    have e : (⟨g, 0, none⟩ : Addr).add k = ⟨g, k, none⟩ := by unfold Addr.add; split <;> simp_all
    rw [e] at this; exact this
  · rcases h.2 with ⟨h1, _⟩ | ⟨g, cap, cur, h1, _⟩
    · exact ⟨0, none, 0, by rw [h1, show l.length = 0 by omega], fun h => absurd h h0, fun k hk => by omega⟩
    · exact ⟨g, _, cap, h1, fun h => absurd h h0, fun k hk => by omega⟩
set_option maxRecDepth 100000 in
theorem bhas_any (w : World) (base : Nat) (v : Value) (l : List Int) (n : Int) (h : w.ownsRow base 3 1 v l.length (i64r l)) (hl : l.length ≤ 1000) :
    Calls Tryz.prog 33 #[v, .int .i64 n] w fun e w' => e = .returned (.bool (decide (n ∈ l))) ∧ Below w.heap.size w w' := by
  obtain ⟨g, p, c, rfl, hp, hc⟩ := i64_form h
  have HP := ahid hp
  have HC := ahid hc
  clear h hp hc
  go_enter Tryz.func33, Tryz.ntmps33
  go_wp2_with fail
  go_loopw [5] (fun i wr => ∃ k : Nat, k ≤ l.length ∧ i = .int .i64 k ∧ n ∉ l.take k ∧ (∃ m, wr = w.drewN m)) (fun i _ => l.length - (intOf i).toNat)
  case atStart => exact ⟨0, Nat.zero_le _, rfl, by simp, 0, rfl⟩
  case round =>
    obtain ⟨k, hk, rfl, htk, m, rfl⟩ := hrel
    have HT := ahid htk
    clear htk
    by_cases hlt : k < l.length
    · obtain rfl := HP.out (by omega)
      have c1 := HC.out k hlt
      have hx : l.getD k 0 = l[k] := by simp [List.getD_eq_getElem?_getD, hlt]
      have t1 := List.take_succ_eq_append_getElem hlt
      have h1 : (k : Int) < l.length := by omega
      by_cases hxy : l.getD k 0 = n
      · have HM := ahid (show n ∈ l by rw [← hxy, hx]; exact List.getElem_mem _)
        rw [hxy] at c1
        clear hxy hx t1
        go_wp2_with fail
        go_ret
        exact ⟨mret_val (by rw [decide_eq_true HM.out]; first | rfl | simp), below_drewN (Below.refl _ _) _⟩
      · have HM := ahid (show n ∉ l.take (k + 1) by
          rw [t1, ← hx]; intro hm
          rcases List.mem_append.1 hm with hm | hm
          · exact HT.out hm
          · simp at hm; exact hxy hm.symm)
        have hne : (l.getD k 0 == n) = false := by simpa using hxy
        clear hx t1
        generalize l.getD k 0 = y at *
        go_wp2_with fail
        exact ⟨⟨k + 1, by omega, by go_num, HM.out, _, rfl⟩, by simp [intOf] <;> omega⟩
    · obtain rfl : k = l.length := by omega
      have HM := ahid (show n ∉ l by have := HT.out; rwa [List.take_length] at this)
      go_wp2_with fail
      go_ret
      exact ⟨mret_val (by rw [decide_eq_false HM.out]; first | rfl | simp), below_drewN (Below.refl _ _) _⟩
theorem r32_cell {w : World} {v : Value} {l : List Int} (h : Reads32 w v l) (h0 : 0 < l.length) : ∃ b o c, v = .slice (some ⟨b, o, none⟩) l.length c ∧ ∀ k, k < l.length → w.cell? ⟨b, o + k, none⟩ = some (.int .u32 (l.getD k 0)) := by
  obtain ⟨b, o, p, c, h1, _, h3, h4⟩ := h.shape
  exact ⟨b, o, c, by rw [h1, h3 h0], h4⟩
set_option maxRecDepth 100000 in
theorem rzeros_any (w : World) (v : Value) (l : List Int) (h : Reads32 w v l) (hl : 192 < l.length) (hl2 : l.length ≤ 1000) (hz : ∀ k, k < 64 → l.getD k 0 = 0) :
    Calls Tryz.prog 36 #[v, .int .i64 64] w fun e w' => e = .returned (.bool true) ∧ Below w.heap.size w w' := by
  obtain ⟨b, o, c, rfl, hc⟩ := r32_cell h (by omega)
  have HC := ahid hc
  have HZ := ahid hz
  clear h hc hz
  go_enter Tryz.func36, Tryz.ntmps36
  go_wp2_with fail
  go_loopw [5] (fun i wr => ∃ k : Nat, k ≤ 64 ∧ i = .int .i64 k ∧ (∃ m, wr = w.drewN m)) (fun i _ => 64 - (intOf i).toNat)
  case atStart => exact ⟨0, Nat.zero_le _, rfl, 0, rfl⟩
  case round =>
    obtain ⟨k, hk, rfl, m, rfl⟩ := hrel
    by_cases hlt : k < 64
    · have c1 := HC.out k (by omega)
      rw [HZ.out k hlt] at c1
      have h1 : (k : Int) < 64 := by omega
      have h2 : (k : Int) < (l.length : Int) := by omega
      have h3 : ¬ (k : Int) ≥ (l.length : Int) := by omega
      go_wp2_with fail
      exact ⟨⟨k + 1, by omega, by go_num, _, rfl⟩, by simp [intOf] <;> omega⟩
    · obtain rfl : k = 64 := by omega
      go_wp2_with fail
      go_ret
      exact ⟨rfl, below_drewN (Below.refl _ _) _⟩
set_option maxRecDepth 100000 in
theorem rleads_any (w : World) (v : Value) (l : List Int) (k : Nat) (n : Int) (h : Reads32 w v l) (hl : 192 < l.length) (hl2 : l.length ≤ 1000) (hk : k < 32)
    (hf : (l.getD (64 + 4 * k + 1) 0 = rettW ∧ l.getD (64 + 4 * k + 2) 0 = rettW ∧ l.getD (64 + 4 * k + 3) 0 = rettW) ∧ (typP k → l.getD (64 + 4 * k) 0 / 2097152 = 544 ∧ 192 ≤ leadTo l k ∧ leadTo l k < l.length ∧ leadAt l k ∉ tos l k ∧ leadAt l k < 256 + 4 * n) ∧ (¬ typP k → l.getD (64 + 4 * k) 0 = rettW)) :
    Calls Tryz.prog 37 #[v, .int .i64 (k : Int)] w fun e w' => e = .returned (.tuple #[.int .u32 (leadAt l k), .bool true]) ∧ Below w.heap.size w w' := by
  obtain ⟨b, o, c, rfl, hc⟩ := r32_cell h (by omega)
  have c0 := hc (64 + 4 * k) (by omega)
  have c1 := hc (64 + 4 * k + 1) (by omega)
  have c2 := hc (64 + 4 * k + 2) (by omega)
  have c3 := hc (64 + 4 * k + 3) (by omega)
  obtain ⟨⟨f1, f2, f3⟩, f4, f5⟩ := hf
  rw [f1] at c1; rw [f2] at c2; rw [f3] at c3
  unfold rettW at c1 c2 c3
  have HT := ahid (rtypes_any (k : Int))
  have g1 : ¬ (64 + 4 * (k : Int) + 4) > (l.length : Int) := by omega
  have l0 : (64 + 4 * (k : Int)) < (l.length : Int) := by omega
  have l1 : (64 + 4 * (k : Int) + 1) < (l.length : Int) := by omega
  have l2 : (64 + 4 * (k : Int) + 2) < (l.length : Int) := by omega
  have l3 : (64 + 4 * (k : Int) + 3) < (l.length : Int) := by omega
  clear h hc f1 f2 f3
  by_cases ht : typP k
  · obtain ⟨q1, q2, q3, -, -⟩ := f4 ht
    rw [decide_eq_true ht] at HT
    have hat : leadAt l k = 4 * leadTo l k := if_pos ht
    rw [hat]
    unfold leadTo at *
    clear f4 f5 ht hat
    generalize l.getD (64 + 4 * k) 0 = x at *
    have hx0 : 0 ≤ x ∧ x < 4294967296 := by omega
    have d1 : x.tdiv 2097152 = 544 := by rw [Int.tdiv_eq_ediv_of_nonneg hx0.1]; exact q1
    have d2 : x.tmod 2097152 = x % 2097152 := Int.tmod_eq_emod_of_nonneg hx0.1
    have d3 : (x == 2147483648) = false := by simp; omega
    obtain ⟨y, hy⟩ : ∃ y, y = x % 2097152 := ⟨_, rfl⟩
    have hy0 : 0 ≤ y ∧ y < 2097152 := by omega
    rw [← hy] at d2 q2 q3 ⊢
    have q3' : 64 + 4 * (k : Int) + y < l.length := by omega
    clear hy q1
    go_enter Tryz.func37, Tryz.ntmps37
    go_wp2_with fail
    refine (HT.out _).mono ?_
    rintro e w1 ⟨rfl, rfl⟩
    go_wp2_with fail
    go_ret2
    refine ⟨?_, Below.refl _ _⟩
    show Ending.returned (.tuple #[.int .u32 (4 * (64 + 4 * (k : Int) + y)), .bool true]) = _
    rw [show ((64 + 4 * k : Nat) : Int) = 64 + 4 * (k : Int) by omega]
  · have f5 := f5 ht
    unfold rettW at f5
    rw [decide_eq_false ht] at HT
    have hat : leadAt l k = 0 := if_neg ht
    rw [hat]
    rw [f5] at c0
    clear f4 ht hat
    go_enter Tryz.func37, Tryz.ntmps37
    go_wp2_with fail
    refine (HT.out _).mono ?_
    rintro e w1 ⟨rfl, rfl⟩
    go_wp2_with fail
    go_quiet (fail)
    go_wp2_with fail
    go_ret2
    exact ⟨rfl, below_drewN (Below.refl _ _) _⟩
end Go.Proofs.YtkejnhleajfcjaaGreatDoor
/- Walk of the statement BootWords. -/
namespace Go.Proofs.YtkejnhleajfcjaaGreatDoor
open Go.RowKit
set_option linter.unusedVariables false
set_option linter.unusedSimpArgs false
attribute [local irreducible] bootW bootN Bs.boot kitL
theorem info64b : (Tryz.prog.info? 3).map (fun i => (i.zero, i.size, i.bytes)) = some (some (.int .i64 0), 1, 8) := by kernel_rfl
def mayA (x : Int) : Prop := 2 ≤ x ∧ x ≤ 32
instance (x : Int) : Decidable (mayA x) := by unfold mayA; infer_instance
/-- What was asked, and what is made. -/
def Says (L : List Int) (f : Nat → Option Value) (n : Int) : Prop := n = L.length ∧ (∀ m : Nat, f m = none ↔ (m : Int) ∉ L)
theorem Says.step {L : List Int} {f f' : Nat → Option Value} {n n' : Int} {w w' : World} {kb m : Nat} (h : Says L f n) (ok : OfOk w w' kb f f' n n' m) :
    ((m : Int) ∈ L → Says L f' n') ∧ ((m : Int) ∉ L → Says (L ++ [(m : Int)]) f' n') := by
  obtain ⟨h1, h2⟩ := h
  obtain ⟨v, hv⟩ := ok.now
  have hc := ok.cnt
  refine ⟨fun hm => ⟨?_, fun q => ?_⟩, fun hm => ⟨?_, fun q => ?_⟩⟩
  · rw [hc, if_neg (fun e => (h2 m).1 e hm)]; omega
  · by_cases e : q = m
    · subst e; rw [hv]; simp [hm]
    · rw [ok.els q e]; exact h2 q
  · rw [hc, if_pos ((h2 m).2 hm), List.length_append]; simp; omega
  · by_cases e : q = m
    · subst e; rw [hv]; simp
    · rw [ok.els q e, h2 q]
      simp only [List.mem_append, List.mem_singleton, not_or]
      exact ⟨fun h => ⟨h, by omega⟩, fun h => h.1⟩
theorem KAt.fresh {B : Nat} {w w' : World} {ka kb : Nat} (h : KAt B w kb (fun _ => none) 0) (hne : kb ≠ ka) (hB : B ≤ ka) (o : Only (fun k => k = ka) w w') : KAt B w' kb (fun _ => none) 0 := by
  obtain ⟨hk, ht, hl⟩ := h
  obtain ⟨cs, hr, h5⟩ := hk.row
  refine ⟨⟨⟨cs, (o.block kb (Array.getElem?_eq_some_iff.1 hr).1 hne).trans hr, h5⟩, fun k v _ hv => (by cases hv), hk.cnt⟩, ht.keepO o (fun k hk => by rw [hk]; exact hB), hl⟩
theorem row_obj {w : World} {base : Nat} {e : TypeId} {size n : Nat} {v : Value} {xs : List Value} (h : w.ownsRow base e size v n xs) {k : Nat} (hk : v.ownBlock = some k) : ∃ cur, w.heap[k]? = some (.cells cur e (0, 0)) ∧ base ≤ k := by
  rcases h.2 with ⟨h1, _⟩ | ⟨g, cap, cur, h1, h2, h3, _⟩
  · rw [h1] at hk; cases hk
  · rw [h1] at hk
    have : g = k := by simpa [Value.ownBlock] using hk
    subst this
    exact ⟨cur, h3, h2⟩
theorem KAt.row {B : Nat} {w w' : World} {kb base m : Nat} {f : Nat → Option Value} {n : Int} {u : Value} {xs : List Value} (h : KAt B w kb f n) (hr : w.ownsRow base 3 1 u m xs) (hB : B ≤ base) (o : Only (fun k => u.ownBlock = some k) w w') : KAt B w' kb f n := by
  obtain ⟨hk, ht, hl⟩ := h
  obtain ⟨cs, h1, h5⟩ := hk.row
  refine ⟨⟨⟨cs, (o.block kb (Array.getElem?_eq_some_iff.1 h1).1 (fun e => ?_)).trans h1, h5⟩, fun k v hk2 hv => ?_, hk.cnt⟩, ht.keepO o (fun k hk => ?_), hl⟩
  · obtain ⟨cur, h2, _⟩ := row_obj hr e
    rw [h1] at h2
    simp at h2
  · obtain ⟨a, b⟩ := hk.own k v hk2 hv
    refine ⟨a, b.imp id ?_⟩
    rintro ⟨g, cap, cur, e1, e2, e3, e4⟩
    refine ⟨g, cap, cur, e1, e2, (o.block g (Array.getElem?_eq_some_iff.1 e3).1 (fun e => ?_)).trans e3, e4⟩
    obtain ⟨cur2, h2, _⟩ := row_obj hr e
    rw [e3] at h2
    simp at h2
  · obtain ⟨_, _, h2⟩ := row_obj hr hk; omega
theorem own_below {w w' : World} {base : Nat} {e : TypeId} {size n : Nat} {v : Value} {xs : List Value} (h : w.ownsRow base e size v n xs) (hb : Below w.heap.size w w') : w'.ownsRow base e size v n xs := by
  refine ⟨h.1, h.2.imp id ?_⟩
  rintro ⟨g, cap, cur, h1, h2, h3, h4⟩
  exact ⟨g, cap, cur, h1, h2, (hb.block g (Array.getElem?_eq_some_iff.1 h3).1).trans h3, h4⟩
set_option maxRecDepth 100000 in
set_option maxHeartbeats 1000000 in
theorem bwords_any (nw : Int) (w : World) (ht : Tab w) (v : Value) (l : List Int) (hl : NumsIn w v l) : Calls Tryz.prog 5 #[.int .i64 nw, v] w fun e w' => e = .returned (.bool true) ∧ Below w.heap.size w w' := by
  obtain ⟨hml, hbd, p, c, b, o, rfl, hp, hc⟩ := hl
  unfold maxLen at hml
  have HT := ahid ht
  have HP := ahid (And.intro hp hc)
  clear ht hp hc
  go_enter Tryz.func5, Tryz.ntmps5
  go_wp2_with fail
  refine (bnew_any w).mono ?_
  rintro e w1 ⟨rfl, hk1, hb1⟩
  have K1 := ahid (show KAt w.heap.size w1 w.heap.size (fun _ => none) 0 from ⟨hk1, TabLo.start HT.out hb1, Nat.le_refl _⟩)
  have B1 := ahid hb1
  clear hk1 hb1
  go_wp2_with fail
  refine (bnew_any w1).mono ?_
  rintro e w2 ⟨rfl, hk2, hb2⟩
  have K1w := ahid ((K1.out.kit.many))
  have K2 := ahid (show KAt w.heap.size w2 w1.heap.size (fun _ => none) 0 from ⟨hk2, K1.out.tab.keepb hb2, B1.out.size⟩)
  have K1 := ahid (K1.out.keepb hb2)
  have B2 := ahid (B1.out.trans (hb2.mono B1.out.size))
  clear hk2 hb2
  by_cases h40 : l.length > 40
  · have h40i : (l.length : Int) > 40 := by omega
    go_wp2_with fail
    refine (bhead_any w2 (HT.out.keep B2.out)).mono ?_
    rintro e w9 ⟨rfl, hb9⟩
    have HN := ahid (B2.out.trans (hb9.mono B2.out.size))
    clear hb9
    go_wp2_with fail
    go_ret
    exact ⟨rfl, HN.out⟩
  have h40i : ¬ (l.length : Int) > 40 := by omega
  go_wp2_with fail
  go_loopw [7, 8] (fun va i wr => ∃ (k : Nat) (L : List Int) (f : Nat → Option Value) (n : Int), k ≤ l.length ∧ i = .int .i64 k ∧ Says L f n ∧ L.length ≤ k ∧ Hid (KAt w.heap.size wr w.heap.size f n) ∧ Hid (KAt w.heap.size wr w1.heap.size (fun _ => none) 0) ∧ Hid (wr.ownsRow w2.heap.size 3 1 va L.length (i64r L)) ∧ Hid (Below w.heap.size w wr ∧ w2.heap.size ≤ wr.heap.size)) (fun _ i _ => l.length - (intOf i).toNat)
  case atStart => exact ⟨0, [], _, 0, Nat.zero_le _, rfl, ⟨rfl, fun m => by simp⟩, Nat.le_refl _, K1, K2, ahid (World.ownsRow_nil _ _ _ _), ahid ⟨B2.out, Nat.le_refl _⟩⟩
  case round =>
    obtain ⟨k, L, f, n, hk, rfl, hsay, hLk, KA, KB, RO, BE⟩ := hrel
    have HS := ahid hsay
    have hn40 : n < 900 := by have := hsay.1; omega
    have hwlt := ahid (show w.heap.size < w1.heap.size ∧ w1.heap.size < w2.heap.size from ⟨World.block_lt_of_cell? _ _ K1w.out, World.block_lt_of_cell? _ _ K2.out.kit.many⟩)
    clear hsay
    by_cases hlt : k < l.length
    · have hlti : (k : Int) < l.length := by omega
      obtain rfl := HP.out.1 (by omega)
      obtain ⟨x, hx⟩ : ∃ x, l[k]? = some x := ⟨_, List.getElem?_eq_getElem hlt⟩
      have c0 := HP.out.2 k x hx
      have c1 := (BE.out.1.cell (World.block_lt_of_cell? _ _ c0)).trans c0
      have C0 := ahid c0
      clear c0
      by_cases hm : mayA x
      · obtain ⟨m, rfl⟩ := Int.eq_ofNat_of_zero_le (show 0 ≤ x by unfold mayA at hm; omega)
        have hm1 : (2 : Int) ≤ (m : Int) := hm.1
        have hm2 : (m : Int) ≤ 32 := hm.2
        have hmn : 2 ≤ m ∧ m ≤ 32 := by omega
        go_wp2_with fail
        refine (kwords_any KA.out.kit KA.out.tab KA.out.lo hn40 (nw := m) hmn.1 hmn.2).mono ?_
        rintro e w5 ⟨u, f', n', w4, rfl, ok, hb5, -⟩
        have HSY := ahid (HS.out.step ok)
        have ho5 := ok.only.trans (Only.of_below (S := fun k => k = w.heap.size) hb5)
        have KA5 := ahid ((KA.out.step ok).keepb hb5)
        have KB5 := ahid (KB.out.fresh (by have := hwlt.out.1; omega) (Nat.le_refl _) ho5)
        have RO5 := ahid (own_only RO.out (by have := hwlt.out; omega) ho5)
        have BE5 := ahid (And.intro (BE.out.1.trans (ho5.below BE.out.1.size (fun k hk hlt => by omega))) (Nat.le_trans BE.out.2 ho5.size))
        clear ok hb5 ho5
        have c5 := (BE5.out.1.cell (World.block_lt_of_cell? _ _ C0.out)).trans C0.out
        go_wp2_with fail
        refine (bhas_any w5 w2.heap.size u7 L (m : Int) RO5.out (by omega)).mono ?_
        rintro e w6 ⟨rfl, hb6⟩
        have KA6 := ahid (KA5.out.keepb hb6)
        have KB6 := ahid (KB5.out.keepb hb6)
        have RO6 := ahid (own_only RO5.out (by have := hwlt.out; omega) (Only.of_below (S := fun k => k = w.heap.size) hb6))
        have BE6 := ahid (And.intro (BE5.out.1.trans (hb6.mono BE5.out.1.size)) (Nat.le_trans BE5.out.2 hb6.size))
        have c6 := (BE6.out.1.cell (World.block_lt_of_cell? _ _ C0.out)).trans C0.out
        clear hb6 KA KB RO BE KA5 KB5 RO5 BE5 c5 c1
        by_cases hin : (m : Int) ∈ L
        · rw [decide_eq_true hin]
          have HN := ahid (HSY.out.1 hin)
          go_wp2_with fail
          exact ⟨⟨k + 1, L, f', n', by omega, by go_num, HN.out, by omega, KA6, KB6, RO6, BE6⟩, by simp [intOf] <;> omega⟩
        · rw [decide_eq_false hin]
          have HN := ahid (HSY.out.2 hin)
          obtain ⟨i0, hi, hz0, hz1, hz2⟩ := info_parts info64b
          go_wp2_with (at_builtin; refine wpList_append_own _ rfl _ _ 66 rfl w2.heap.size 3 i0 (.int .i64 0) 1 8 Tryz.underlying66 hi hz0 hz1 hz2 rfl (by decide) _ L.length (i64r L) rfl (RO6.out.alloc _) ⟨w6.heap.size, 0, none⟩ 1 1 [.int .i64 (m : Int)] rfl rfl (cell_one_new _ _ _) (by simp [Value.oneCell']) (by unfold maxLen; omega) (by omega) (by have := BE6.out.2; simp; omega) ?_; intro v' w7 hown hgrow hnil)
          have ho7 : Only (fun k => u7.ownBlock = some k) w6 w7 := Only.grown (Only.of_below ((Below.refl _ w6).alloc (Nat.le_refl _) (.cells #[.int .i64 (m : Int)] 3))) hgrow (fun k hk _ => hk)
          have KA7 := ahid (KA6.out.row RO6.out (by have := hwlt.out; omega) ho7)
          have KB7 := ahid (KB6.out.row RO6.out (by have := hwlt.out; omega) ho7)
          have RO7 : Hid (w7.ownsRow w2.heap.size 3 1 v' (L ++ [(m : Int)]).length (i64r (L ++ [(m : Int)]))) := ahid (by unfold i64r at hown ⊢; rw [List.map_append, List.length_append]; exact hown)
          have BE7 := ahid (And.intro (BE6.out.1.trans (ho7.below BE6.out.1.size (fun k hk hlt => by obtain ⟨_, _, h2⟩ := row_obj RO6.out hlt; have := hwlt.out; omega))) (Nat.le_trans BE6.out.2 ho7.size))
          exact ⟨⟨k + 1, L ++ [(m : Int)], f', n', by omega, by go_num, HN.out, by rw [List.length_append]; simp; omega, KA7, KB7, RO7, BE7⟩, by simp [intOf] <;> omega⟩
      · have hm0 : ¬ (2 ≤ x ∧ x ≤ 32) := hm
        go_wp2_with fail
        all_goals
          refine (kwords_no (.inr rfl) (of_bad KA.out.kit (nw := x) hm0)).mono ?_
          rintro e w5 ⟨rfl, hb5⟩
          have KA5 := ahid (KA.out.keepb hb5)
          have KB5 := ahid (KB.out.keepb hb5)
          have RO5 := ahid (own_only RO.out (by have := hwlt.out; omega) (Only.of_below (S := fun k => k = w.heap.size) hb5))
          have BE5 := ahid (And.intro (BE.out.1.trans (hb5.mono BE.out.1.size)) (Nat.le_trans BE.out.2 hb5.size))
          clear hb5
          have c5 := (BE5.out.1.cell (World.block_lt_of_cell? _ _ C0.out)).trans C0.out
          by_cases h2x : 2 ≤ x
          · have h3x : ¬ x ≤ 32 := by omega
            go_wp2_with fail
            exact ⟨⟨k + 1, L, f, n, by omega, by go_num, HS.out, by omega, KA5, KB5, RO5, BE5⟩, by simp [intOf] <;> omega⟩
          · go_wp2_with fail
            exact ⟨⟨k + 1, L, f, n, by omega, by go_num, HS.out, by omega, KA5, KB5, RO5, BE5⟩, by simp [intOf] <;> omega⟩
    · obtain rfl : k = l.length := by omega
      have hlti : ¬ (l.length : Int) < (l.length : Int) := by omega
      go_wp2_with fail
      refine (made_any KA.out.kit.many (by have := HS.out.1; omega) (by have := HS.out.1; omega)).mono ?_
      rintro e w5 ⟨rfl, rfl⟩
      have hnL : n = (L.length : Int) := HS.out.1
      subst hnL
      obtain ⟨ga, pa, ca, hu7, -, -⟩ := i64_form RO.out
      subst hu7
      have BEO := BE.out
      have hwl := hwlt.out
      by_cases hm : mayA nw
      · obtain ⟨m, rfl⟩ := Int.eq_ofNat_of_zero_le (show 0 ≤ nw by unfold mayA at hm; omega)
        have hmn : 2 ≤ m ∧ m ≤ 32 := by unfold mayA at hm; omega
        have hm1 : ¬ (m : Int) < 2 := by omega
        have hm2 : ¬ (m : Int) > 32 := by omega
        go_wp2_with fail
        refine (kwords_any KA.out.kit KA.out.tab KA.out.lo hn40 (nw := m) hmn.1 hmn.2).mono ?_
        rintro e w6 ⟨u, f6, n6, w5, rfl, ok6, hb6, hu6⟩
        have ho6 := ok6.only.trans (Only.of_below (S := fun k => k = w.heap.size) hb6)
        have KB6 := ahid (KB.out.fresh (by omega) (Nat.le_refl _) ho6)
        have BE6 := ahid (And.intro (BE.out.1.trans (ho6.below BE.out.1.size (fun k hk hlt => by omega))) (Nat.le_trans BE.out.2 ho6.size))
        have U6 := ahid (show w6.ownsRow w2.heap.size 23 1 u (kitL m).length (u32s (kitL m)) from own_mono hu6 (Nat.le_trans BE.out.2 ok6.only.size))
        clear ok6 hb6 hu6 ho6
        go_wp2_with fail
        refine (kwords_any KB6.out.kit KB6.out.tab KB6.out.lo (by omega) (nw := m) hmn.1 hmn.2).mono ?_
        rintro e w8 ⟨u2, f8, n8, w7, rfl, ok8, hb8, hu8⟩
        have ho8 := ok8.only.trans (Only.of_below (S := fun k => k = w1.heap.size) hb8)
        have KB8 := ahid ((KB6.out.step ok8).keepb hb8)
        have BE8 := ahid (And.intro (BE6.out.1.trans (ho8.below BE6.out.1.size (fun k hk hlt => by omega))) (Nat.le_trans BE6.out.2 ho8.size))
        have hn8 : n8 = 1 := by have := ok8.cnt; simpa using this
        have hf8 : f8 m ≠ none := by obtain ⟨v, hv⟩ := ok8.now; rw [hv]; simp
        subst hn8
        have U8 := ahid (own_only U6.out (by omega) ho8)
        have V8 := ahid (show w8.ownsRow w2.heap.size 23 1 u2 (kitL m).length (u32s (kitL m)) from own_mono hu8 (Nat.le_trans BE6.out.2 ok8.only.size))
        clear ok8 hb8 hu8 ho8 KB6 U6
        go_wp2_with fail
        refine (kstart_any KB8.out.kit KB8.out.tab KB8.out.lo (by omega) (nw := m) hmn.1 hmn.2).mono ?_
        rintro e w9 ⟨rfl, f9, n9, ok9⟩
        have KB9 := ahid (KB8.out.step ok9)
        have BE9 := ahid (And.intro (BE8.out.1.trans (ok9.only.below BE8.out.1.size (fun k hk hlt => by omega))) (Nat.le_trans BE8.out.2 ok9.only.size))
        have hn9 : n9 = 1 := by have := ok9.cnt; rw [if_neg hf8] at this; omega
        subst hn9
        have U9 := ahid (Reads32.of_own (own_only U8.out (by omega) ok9.only))
        have V9 := ahid (Reads32.of_own (own_only V8.out (by omega) ok9.only))
        clear ok9 KB8 U8 V8
        have hfine := boot_is hmn.1 hmn.2
        have hbf := boot_fine hmn.1 hmn.2
        have hld := boot_leads hmn.1 hmn.2
        have hlen := kit_len m
        have hz : ∀ k, k < 64 → (kitL m).getD k 0 = 0 := fun k hk => kit_zero m hk
        have HLD := ahid (fun (k : Nat) (hk : k < 32) => leadsF_at hld hk)
        have HST := ahid hfine.n
        have hS0 : (128 : Int) < bootN m ∧ bootN m < 10000 := by have := hfine.n; have := hfine.l; omega
        have hS1 : (256 + 4 * bootN m) % 4 = 0 ∧ (256 + 4 * bootN m) / 4 = 64 + bootN m := by omega
        have HZ := ahid hz
        have hLk : 192 < (kitL m).length ∧ (kitL m).length ≤ 450 := by have := hfine.n; have := hfine.l; omega
        have hLi : (192 : Int) < ((kitL m).length : Int) ∧ ((kitL m).length : Int) ≤ 450 ∧ 64 + bootN m < ((kitL m).length : Int) := by have := hfine.n; have := hfine.l; omega
        obtain ⟨hL1, hL2, hL3⟩ := hLi
        have hL4 : ¬ ((kitL m).length : Int) > 450 := by omega
        clear hfine hbf hld hlen hz KA RO
        generalize bootN m = N at *
        generalize hKL : kitL m = KL at *
        clear hKL
        obtain ⟨b1, o1, c1, hu1, -⟩ := r32_cell U9.out (by omega)
        subst hu1
        go_wp2_with fail
        refine (same_any w9 _ u2 KL KL U9.out V9.out).mono ?_
        rintro e w10 ⟨rfl, hb10⟩
        rw [decide_eq_true (rfl : KL = KL)]
        have KB10 := ahid (KB9.out.keepb hb10)
        have U10 := ahid (U9.out.keepb hb10)
        have BE10 := ahid (And.intro (BE9.out.1.trans (hb10.mono BE9.out.1.size)) (Nat.le_trans BE9.out.2 hb10.size))
        clear hb10 KB9 U9 V9 BE9 BE8 BE6 BE
        go_wp2_with fail
        refine (made_any KB10.out.kit.many (by omega) (by omega)).mono ?_
        rintro e w11 ⟨rfl, rfl⟩
        go_wp2_with fail
        refine (rzeros_any _ _ KL U10.out (by omega) (by omega) HZ.out).mono ?_
        rintro e w12 ⟨rfl, hb12⟩
        have U12 := ahid (U10.out.keepb hb12)
        have BE12 := ahid (And.intro (BE10.out.1.trans (hb12.mono BE10.out.1.size)) (Nat.le_trans BE10.out.2 hb12.size))
        clear hb12 U10 BE10 KB10
        go_wp2_with fail
        go_loopw [18, 19] (fun va i wr => ∃ k : Nat, k ≤ 32 ∧ i = .int .i64 k ∧ Hid (wr.ownsRow w12.heap.size 3 1 va (tos KL k).length (i64r (tos KL k))) ∧ Hid (Below w12.heap.size w12 wr)) (fun _ i _ => 32 - (intOf i).toNat)
        case atStart => exact ⟨0, by omega, rfl, ahid (World.ownsRow_nil _ _ _ _), ahid (Below.refl _ _)⟩
        case round =>
          obtain ⟨k, hk, rfl, RT, BT⟩ := hrel
          by_cases hlt : k < 32
          · have hlti : (k : Int) < 32 := by omega
            have HTY := ahid (rtypes_any (k : Int))
            have htl := tos_len KL k
            have HTS := ahid (tos_succ KL k)
            have HF := ahid (HLD.out k hlt)
            go_wp2_with fail
            refine (rleads_any wr _ KL k N (U12.out.keepb BT.out) (by omega) (by omega) hlt HF.out).mono ?_
            rintro e w13 ⟨rfl, hb13⟩
            have BT13 := ahid (BT.out.trans (hb13.mono BT.out.size))
            have RT13 := ahid (own_below RT.out hb13)
            clear hb13 BT RT
            go_wp2_with fail
            refine (HTY.out w13).mono ?_
            rintro e w14 ⟨rfl, rfl⟩
            by_cases ht : typP (k : Int)
            · rw [decide_eq_true ht] at HTY ⊢
              obtain ⟨f1, f2, f3, f4, f5⟩ := HF.out.2.1 ht
              have hts := HTS.out
              rw [if_pos ht] at hts
              have HTS2 := ahid hts
              have hat : leadAt KL k = 4 * leadTo KL k := if_pos ht
              have hat2 : 0 ≤ leadAt KL k ∧ leadAt KL k < 4000 := by omega
              have HN4 := ahid f4
              clear hts f4 HTS hat f2 f3 HF
              generalize leadAt KL k = A at *
              have e64 : IntKind.i64.wrap A = A := IntWalk.i64_in _ (by omega)
              have hge : ¬ A ≥ 256 + 4 * N := by omega
              go_wp2_with fail
              refine (bhas_any w13 w12.heap.size _ (tos KL k) A RT13.out (by omega)).mono ?_
              rintro e w15 ⟨rfl, hb15⟩
              rw [decide_eq_false HN4.out]
              have BT15 := ahid (BT13.out.trans (hb15.mono BT13.out.size))
              have RT15 := ahid (own_below RT13.out hb15)
              clear hb15 BT13 RT13
              go_wp2_with fail
              refine (HTY.out w15).mono ?_
              rintro e w16 ⟨rfl, rfl⟩
              obtain ⟨i0, hi, hz0, hz1, hz2⟩ := info_parts info64b
              go_wp2_with (at_builtin; refine wpList_append_own _ rfl _ _ 66 rfl w12.heap.size 3 i0 (.int .i64 0) 1 8 Tryz.underlying66 hi hz0 hz1 hz2 rfl (by decide) _ (tos KL k).length (i64r (tos KL k)) rfl (RT15.out.alloc _) ⟨w15.heap.size, 0, none⟩ 1 1 [.int .i64 A] rfl rfl (cell_one_new _ _ _) (by simp [Value.oneCell']) (by unfold maxLen; omega) (by omega) (by have := BT15.out.size; simp; omega) ?_; intro v' w17 hown hgrow hnil)
              have hb17 : Below w12.heap.size w12 w17 := (BT15.out.alloc BT15.out.size _).grown hgrow (by have := BT15.out.size; simp; omega) (fun r e => ((RT15.out.alloc (.cells #[.int .i64 A] 3)).lt r e).1)
              have hr17 : w17.ownsRow w12.heap.size 3 1 v' (tos KL (k + 1)).length (i64r (tos KL (k + 1))) := by
                rw [HTS2.out]; unfold i64r at hown ⊢; rw [List.map_append, List.length_append]; exact hown
              exact ⟨⟨k + 1, by omega, by go_num, ahid hr17, ahid hb17⟩, by simp [intOf] <;> omega⟩
            · rw [decide_eq_false ht] at HTY ⊢
              have hts := HTS.out
              rw [if_neg ht] at hts
              have HTS2 := ahid hts
              clear hts HTS
              go_wp2_with fail
              refine (HTY.out w13).mono ?_
              rintro e w16 ⟨rfl, rfl⟩
              go_wp2_with fail
              exact ⟨⟨k + 1, by omega, by go_num, by rw [HTS2.out]; exact RT13, BT13⟩, by simp [intOf] <;> omega⟩
          · obtain rfl : k = 32 := by omega
            have hs1 : 256 + 4 * N > 768 := by omega
            have hs2 : (256 + 4 * N).tmod 4 = 0 := by rw [Int.tmod_eq_emod_of_nonneg (by omega)]; omega
            have hs3 : (256 + 4 * N).tdiv 4 = 64 + N := by rw [Int.tdiv_eq_ediv_of_nonneg (by omega)]; omega
            have hs4 : IntKind.i64.wrap (256 + 4 * N) = 256 + 4 * N := IntWalk.i64_in _ (by omega)
            go_wp2_with fail
            refine (bhead_any wr (HT.out.keep (BE12.out.1.trans (BT.out.mono BE12.out.1.size)))).mono ?_
            rintro e w18 ⟨rfl, hb18⟩
            have HN := ahid ((BE12.out.1.trans (BT.out.mono BE12.out.1.size)).trans (hb18.mono (BE12.out.1.trans (BT.out.mono BE12.out.1.size)).size))
            clear hb18
            go_wp2_with fail
            go_ret
            exact ⟨rfl, HN.out⟩
      · have hm0 : ¬ (2 ≤ nw ∧ nw ≤ 32) := hm
        go_wp2_with fail
        refine (kwords_no (.inr rfl) (of_bad KA.out.kit (nw := nw) hm0)).mono ?_
        rintro e w6 ⟨rfl, hb6⟩
        have KB6 := ahid (KB.out.keepb hb6)
        have BE6 := ahid (BE.out.1.trans (hb6.mono BE.out.1.size))
        clear hb6
        go_wp2_with fail
        refine (kwords_no (.inr rfl) (of_bad KB6.out.kit (nw := nw) hm0)).mono ?_
        rintro e w7 ⟨rfl, hb7⟩
        have KB7 := ahid (KB6.out.keepb hb7)
        have BE7 := ahid (BE6.out.trans (hb7.mono BE6.out.size))
        clear hb7
        go_wp2_with fail
        refine (kstart_no (.inr rfl) (of_bad KB7.out.kit (nw := nw) hm0)).mono ?_
        rintro e w8 ⟨rfl, hb8⟩
        have KB8 := ahid (KB7.out.keepb hb8)
        have BE8 := ahid (BE7.out.trans (hb8.mono BE7.out.size))
        clear hb8
        by_cases h2x : nw < 2
        · go_wp2_with fail
          refine (made_any KB8.out.kit.many (by omega) (by omega)).mono ?_
          rintro e w9 ⟨rfl, rfl⟩
          go_wp2_with fail
          refine (bhead_any _ (HT.out.keep BE8.out)).mono ?_
          rintro e w9 ⟨rfl, hb9⟩
          have HN := ahid (BE8.out.trans (hb9.mono BE8.out.size))
          clear hb9
          go_wp2_with fail
          go_ret
          exact ⟨rfl, HN.out⟩
        · have h3x : nw > 32 := by omega
          go_wp2_with fail
          all_goals
            refine (made_any KB8.out.kit.many (by omega) (by omega)).mono ?_
            rintro e w9 ⟨rfl, rfl⟩
            go_wp2_with fail
            refine (bhead_any _ (HT.out.keep BE8.out)).mono ?_
            rintro e w9 ⟨rfl, hb9⟩
            have HN := ahid (BE8.out.trans (hb9.mono BE8.out.size))
            clear hb9
            go_wp2_with fail
            go_ret
            exact ⟨rfl, HN.out⟩
theorem walk_BootWords (nw : Int) (v : Value) (l : List Int) (w : World) (hl : NumsIn w v l) (ht : Tab w) : Calls Tryz.prog 5 #[.int .i64 nw, v] w fun e w' => e = .returned (.bool true) ∧ Below w.heap.size w w' := bwords_any nw w ht v l hl
end Go.Proofs.YtkejnhleajfcjaaGreatDoor
