/- Several texts in one: MachLessLaw, MachUnlike, MachStop. -/
import Derived.Test.YtgdebchbdmogcaaGreatDoorGE
import Derived.Test.YtgdebchbdmogcaaGreatDoorGF
import Derived.Test.YtgdebchbdmogcaaGreatDoorGD
import Derived.Test.YtgdebchbdmogcaaGreatDoorGT
/- The plain law of muntinlaw06.MachLess: how much a step changes. No program in sight. -/
namespace Go.Proofs.YtgdebchbdmogcaaGreatDoor
open Go.RowKit
set_option linter.unusedVariables false
set_option linter.unusedSimpArgs false
/-- How many numbers below n are so. -/
def cntN (f : Nat → Bool) : Nat → Nat
  | 0 => 0
  | n + 1 => cntN f n + (if f n = true then 1 else 0)
def sumN (f : Nat → Nat) : Nat → Nat
  | 0 => 0
  | n + 1 => sumN f n + f n
theorem cnt_zero (f : Nat → Bool) : ∀ n, (∀ i, i < n → f i = false) → cntN f n = 0
  | 0, _ => rfl
  | n + 1, h => by
    have ih := cnt_zero f n (fun i hi => h i (by omega))
    show cntN f n + (if f n = true then 1 else 0) = 0
    rw [ih, h n (by omega)]; rfl
theorem cnt_one (f : Nat → Bool) (i0 : Nat) : ∀ n, (∀ i, i < n → f i = true → i = i0) → cntN f n ≤ 1
  | 0, _ => Nat.zero_le _
  | n + 1, h => by
    show cntN f n + (if f n = true then 1 else 0) ≤ 1
    by_cases hn : f n = true
    · have e := h n (by omega) hn
      rw [cnt_zero f n (fun i hi => by
        cases hf : f i with
        | false => rfl
        | true => have := h i (by omega) hf; omega), if_pos hn]
      omega
    · rw [if_neg hn]
      have := cnt_one f i0 n (fun i hi => h i (by omega))
      omega
theorem cnt_le (f : Nat → Bool) : ∀ n, cntN f n ≤ n
  | 0 => Nat.le_refl _
  | n + 1 => by
    have := cnt_le f n
    show cntN f n + (if f n = true then 1 else 0) ≤ n + 1
    split <;> omega
theorem sum_zero (f : Nat → Nat) : ∀ n, (∀ i, i < n → f i = 0) → sumN f n = 0
  | 0, _ => rfl
  | n + 1, h => by
    show sumN f n + f n = 0
    rw [sum_zero f n (fun i hi => h i (by omega)), h n (by omega)]
theorem sum_one (f : Nat → Nat) (i0 : Nat) (h1 : f i0 ≤ 1) : ∀ n, (∀ i, i < n → i ≠ i0 → f i = 0) → sumN f n ≤ 1
  | 0, _ => Nat.zero_le _
  | n + 1, h => by
    show sumN f n + f n ≤ 1
    by_cases hn : n = i0
    · subst hn
      rw [sum_zero f n (fun i hi => h i (by omega) (by omega))]
      omega
    · rw [h n (by omega) hn]
      have := sum_one f i0 h1 n (fun i hi => h i (by omega))
      omega
theorem sum_le (f : Nat → Nat) (K : Nat) (hf : ∀ i, f i ≤ K) : ∀ n, sumN f n ≤ n * K
  | 0 => Nat.zero_le _
  | n + 1 => by
    have := sum_le f K hf n
    have := hf n
    show sumN f n + f n ≤ (n + 1) * K
    rw [Nat.succ_mul]; omega
def neB (x y : Int) : Bool := !(x == y)
/-- At how many places two rows are not the same. -/
def unlikeL (x y : List Int) : Nat := cntN (fun i => neB (x.getD i 0) (y.getD i 0)) (min x.length y.length)
theorem neB_self (x : Int) : neB x x = false := by simp [neB]
theorem unl_same (x : List Int) : unlikeL x x = 0 := cnt_zero _ _ (fun i _ => neB_self _)
theorem unl_one {x y : List Int} (i0 : Nat) (h : ∀ i, i ≠ i0 → x.getD i 0 = y.getD i 0) : unlikeL x y ≤ 1 := cnt_one _ i0 _ (fun i _ hi => by
  by_cases e : i = i0
  · exact e
  · rw [h i e, neB_self] at hi; cases hi)
/-- What a step changes at most. -/
structure Near (a b : Mx) : Prop where
  nw : b.f.nw = a.f.nw
  f : (b.f.glo = a.f.glo ∧ ∃ i x, b.f.win = a.f.win.set i x) ∨ (b.f.win = a.f.win ∧ ∃ i x, b.f.glo = a.f.glo.set i x)
  mem : b.mem = a.mem ∨ ∃ at' many x, 0 ≤ at' ∧ (many = 1 ∨ many = 4) ∧ spanE a.mem.length at' 1 many = 0 ∧ b.mem = storeV a.mem at' many x
  t : ∃ k, (b.tpc = a.tpc ∨ ∃ u, b.tpc = a.tpc.set k u) ∧ (b.tpsr = a.tpsr ∨ ∃ u, b.tpsr = a.tpsr.set k u)
  out : b.out = a.out ∨ ∃ x, b.out = a.out ++ [x]
theorem set_len_self (l : List Int) (x : Int) : l = l.set l.length x := (List.set_eq_of_length_le (Nat.le_refl _)).symm
theorem near_0 {a b : Mx} (h : b.f = a.f) (hm : b.mem = a.mem) (h1 : b.tpc = a.tpc) (h2 : b.tpsr = a.tpsr) (ho : b.out = a.out) : Near a b :=
  ⟨by rw [h], .inl ⟨by rw [h], _, 0, by rw [h]; exact set_len_self _ 0⟩, .inl hm, ⟨0, .inl h1, .inl h2⟩, .inl ho⟩
theorem near_f {a b : Mx} {w bk r : Nat} {x : Int} (h : b.f = setF a.f w bk r x) (hm : b.mem = a.mem) (h1 : b.tpc = a.tpc) (h2 : b.tpsr = a.tpsr) (ho : b.out = a.out) : Near a b := by
  refine ⟨by rw [h, setF_nw], ?_, .inl hm, ⟨0, .inl h1, .inl h2⟩, .inl ho⟩
  rw [h]
  unfold setF
  split
  · exact .inl ⟨rfl, _, 0, set_len_self _ 0⟩
  · split
    · exact .inr ⟨rfl, _, _, rfl⟩
    · split
      · exact .inl ⟨rfl, _, _, rfl⟩
      · exact .inl ⟨rfl, _, _, rfl⟩
theorem near_out {a b : Mx} {x : Int} (h : b.f = a.f) (hm : b.mem = a.mem) (h1 : b.tpc = a.tpc) (h2 : b.tpsr = a.tpsr) (ho : b.out = a.out ++ [x]) : Near a b := by
  obtain ⟨p, q, r, s, _⟩ := near_0 (a := a) (b := { b with out := a.out }) h hm h1 h2 rfl
  exact ⟨p, q, r, s, .inr ⟨x, ho⟩⟩
theorem near_t {a b : Mx} {k : Nat} (h : b.f = a.f) (hm : b.mem = a.mem) (h1 : b.tpc = a.tpc ∨ ∃ u, b.tpc = a.tpc.set k u) (h2 : b.tpsr = a.tpsr ∨ ∃ u, b.tpsr = a.tpsr.set k u) (ho : b.out = a.out) : Near a b := by
  obtain ⟨p, q, r, _, s⟩ := near_0 (a := a) (b := { b with tpc := a.tpc, tpsr := a.tpsr }) h hm rfl rfl ho
  exact ⟨p, q, r, ⟨k, h1, h2⟩, s⟩
theorem near_mem {a b : Mx} {at' many x : Int} (h0 : 0 ≤ at') (hy : many = 1 ∨ many = 4) (hs : spanE a.mem.length at' 1 many = 0) (h : b.f = a.f) (hm : b.mem = storeV a.mem at' many x) (h1 : b.tpc = a.tpc) (h2 : b.tpsr = a.tpsr) (ho : b.out = a.out) : Near a b := by
  obtain ⟨p, q, _, r, s⟩ := near_0 (a := a) (b := { b with mem := a.mem }) h rfl h1 h2 ho
  exact ⟨p, q, .inr ⟨at', many, x, h0, hy, hs, hm⟩, r, s⟩
theorem trapM_near (m : Mx) (bank kind pc : Int) : Near m (trapM m bank kind pc) := near_t (k := bank.toNat) rfl rfl (.inr ⟨_, rfl⟩) (.inr ⟨_, rfl⟩) rfl
theorem haltM_near (m : Mx) (k v : Int) : Near m (haltM m k v) := near_0 rfl rfl rfl rfl rfl
theorem winM_near (m : Mx) (kind pc : Int) : Near m (winM m kind pc) := by
  unfold winM; split
  · exact trapM_near _ _ _ _
  · exact haltM_near _ _ _
theorem turnM_near (m : Mx) (rd a b to kind : Int) : Near m (turnM m rd a b to kind) := by
  unfold turnM; split
  · exact winM_near _ _ _
  · exact near_f (w := to.toNat) (bk := m.p.bank.toNat) (r := rd.toNat) (x := u32 (a + b)) rfl rfl rfl rfl rfl
theorem loadM_near (m : Mx) (rd at' many : Int) : Near m (loadM m rd at' many) := by
  unfold loadM; split
  · exact near_f (w := m.p.cwp.toNat) (bk := m.p.bank.toNat) (r := rd.toNat) rfl rfl rfl rfl rfl
  · exact haltM_near _ _ _
theorem storeM_near (m : Mx) (rd at' many : Int) (h0 : 0 ≤ at') (hy : many = 1 ∨ many = 4) : Near m (storeM m rd at' many) := by
  unfold storeM; split
  · rename_i hs
    exact near_mem h0 hy hs rfl rfl rfl rfl rfl
  · exact haltM_near _ _ _
theorem opS_near (m : Mx) (x : Ix) (a b : Int) : Near m (opS m x a b) := by
  have hu := (u32_bd (a + b)).1
  have hf : ∀ r y, Near m (onM (setM m r y)) := fun r y => near_f (w := m.p.cwp.toNat) (bk := m.p.bank.toNat) (r := r.toNat) (x := y) rfl rfl rfl rfl rfl
  unfold opS
  by_cases h0 : x.op ≤ 14
  · rw [if_pos h0]
    split <;> (first | exact hf _ _ | exact haltM_near _ _ _ | exact turnM_near _ _ _ _ _ _ | exact loadM_near _ _ _ _ | exact storeM_near _ _ _ _ hu (.inr rfl) | exact storeM_near _ _ _ _ hu (.inl rfl) | exact winM_near _ _ _ | exact near_0 rfl rfl rfl rfl rfl | exact near_out rfl rfl rfl rfl rfl | exact near_f (w := m.p.cwp.toNat) (bk := m.p.bank.toNat) (r := (15 : Int).toNat) (x := m.pc) rfl rfl rfl rfl rfl | exact near_f (w := m.p.cwp.toNat) (bk := m.p.bank.toNat) (r := x.rd.toNat) (x := m.pc) rfl rfl rfl rfl rfl | exact near_f (w := m.p.cwp.toNat) (bk := m.p.bank.toNat) (r := x.rd.toNat) (x := m.ch.headD 0) rfl rfl rfl rfl rfl | exact near_t (k := m.p.bank.toNat) rfl rfl (.inl rfl) (.inr ⟨_, rfl⟩) rfl | exact near_t (k := m.p.bank.toNat) rfl rfl (.inr ⟨_, rfl⟩) (.inl rfl) rfl)
  rw [if_neg h0]
  by_cases h1 : x.op = 15
  · rw [if_pos h1]
    (first | exact hf _ _ | exact haltM_near _ _ _ | exact turnM_near _ _ _ _ _ _ | exact loadM_near _ _ _ _ | exact storeM_near _ _ _ _ hu (.inr rfl) | exact storeM_near _ _ _ _ hu (.inl rfl) | exact winM_near _ _ _ | exact near_0 rfl rfl rfl rfl rfl | exact near_out rfl rfl rfl rfl rfl | exact near_f (w := m.p.cwp.toNat) (bk := m.p.bank.toNat) (r := (15 : Int).toNat) (x := m.pc) rfl rfl rfl rfl rfl | exact near_f (w := m.p.cwp.toNat) (bk := m.p.bank.toNat) (r := x.rd.toNat) (x := m.pc) rfl rfl rfl rfl rfl | exact near_f (w := m.p.cwp.toNat) (bk := m.p.bank.toNat) (r := x.rd.toNat) (x := m.ch.headD 0) rfl rfl rfl rfl rfl | exact near_t (k := m.p.bank.toNat) rfl rfl (.inl rfl) (.inr ⟨_, rfl⟩) rfl | exact near_t (k := m.p.bank.toNat) rfl rfl (.inr ⟨_, rfl⟩) (.inl rfl) rfl)
  rw [if_neg h1]
  by_cases h2 : x.op = 16
  · rw [if_pos h2]
    (first | exact hf _ _ | exact haltM_near _ _ _ | exact turnM_near _ _ _ _ _ _ | exact loadM_near _ _ _ _ | exact storeM_near _ _ _ _ hu (.inr rfl) | exact storeM_near _ _ _ _ hu (.inl rfl) | exact winM_near _ _ _ | exact near_0 rfl rfl rfl rfl rfl | exact near_out rfl rfl rfl rfl rfl | exact near_f (w := m.p.cwp.toNat) (bk := m.p.bank.toNat) (r := (15 : Int).toNat) (x := m.pc) rfl rfl rfl rfl rfl | exact near_f (w := m.p.cwp.toNat) (bk := m.p.bank.toNat) (r := x.rd.toNat) (x := m.pc) rfl rfl rfl rfl rfl | exact near_f (w := m.p.cwp.toNat) (bk := m.p.bank.toNat) (r := x.rd.toNat) (x := m.ch.headD 0) rfl rfl rfl rfl rfl | exact near_t (k := m.p.bank.toNat) rfl rfl (.inl rfl) (.inr ⟨_, rfl⟩) rfl | exact near_t (k := m.p.bank.toNat) rfl rfl (.inr ⟨_, rfl⟩) (.inl rfl) rfl)
  rw [if_neg h2]
  by_cases h3 : x.op = 17
  · rw [if_pos h3]
    split <;> (first | exact hf _ _ | exact haltM_near _ _ _ | exact turnM_near _ _ _ _ _ _ | exact loadM_near _ _ _ _ | exact storeM_near _ _ _ _ hu (.inr rfl) | exact storeM_near _ _ _ _ hu (.inl rfl) | exact winM_near _ _ _ | exact near_0 rfl rfl rfl rfl rfl | exact near_out rfl rfl rfl rfl rfl | exact near_f (w := m.p.cwp.toNat) (bk := m.p.bank.toNat) (r := (15 : Int).toNat) (x := m.pc) rfl rfl rfl rfl rfl | exact near_f (w := m.p.cwp.toNat) (bk := m.p.bank.toNat) (r := x.rd.toNat) (x := m.pc) rfl rfl rfl rfl rfl | exact near_f (w := m.p.cwp.toNat) (bk := m.p.bank.toNat) (r := x.rd.toNat) (x := m.ch.headD 0) rfl rfl rfl rfl rfl | exact near_t (k := m.p.bank.toNat) rfl rfl (.inl rfl) (.inr ⟨_, rfl⟩) rfl | exact near_t (k := m.p.bank.toNat) rfl rfl (.inr ⟨_, rfl⟩) (.inl rfl) rfl)
  rw [if_neg h3]
  by_cases h4 : x.op = 18
  · rw [if_pos h4]
    (first | exact hf _ _ | exact haltM_near _ _ _ | exact turnM_near _ _ _ _ _ _ | exact loadM_near _ _ _ _ | exact storeM_near _ _ _ _ hu (.inr rfl) | exact storeM_near _ _ _ _ hu (.inl rfl) | exact winM_near _ _ _ | exact near_0 rfl rfl rfl rfl rfl | exact near_out rfl rfl rfl rfl rfl | exact near_f (w := m.p.cwp.toNat) (bk := m.p.bank.toNat) (r := (15 : Int).toNat) (x := m.pc) rfl rfl rfl rfl rfl | exact near_f (w := m.p.cwp.toNat) (bk := m.p.bank.toNat) (r := x.rd.toNat) (x := m.pc) rfl rfl rfl rfl rfl | exact near_f (w := m.p.cwp.toNat) (bk := m.p.bank.toNat) (r := x.rd.toNat) (x := m.ch.headD 0) rfl rfl rfl rfl rfl | exact near_t (k := m.p.bank.toNat) rfl rfl (.inl rfl) (.inr ⟨_, rfl⟩) rfl | exact near_t (k := m.p.bank.toNat) rfl rfl (.inr ⟨_, rfl⟩) (.inl rfl) rfl)
  rw [if_neg h4]
  by_cases h5 : x.op = 19
  · rw [if_pos h5]
    (first | exact hf _ _ | exact haltM_near _ _ _ | exact turnM_near _ _ _ _ _ _ | exact loadM_near _ _ _ _ | exact storeM_near _ _ _ _ hu (.inr rfl) | exact storeM_near _ _ _ _ hu (.inl rfl) | exact winM_near _ _ _ | exact near_0 rfl rfl rfl rfl rfl | exact near_out rfl rfl rfl rfl rfl | exact near_f (w := m.p.cwp.toNat) (bk := m.p.bank.toNat) (r := (15 : Int).toNat) (x := m.pc) rfl rfl rfl rfl rfl | exact near_f (w := m.p.cwp.toNat) (bk := m.p.bank.toNat) (r := x.rd.toNat) (x := m.pc) rfl rfl rfl rfl rfl | exact near_f (w := m.p.cwp.toNat) (bk := m.p.bank.toNat) (r := x.rd.toNat) (x := m.ch.headD 0) rfl rfl rfl rfl rfl | exact near_t (k := m.p.bank.toNat) rfl rfl (.inl rfl) (.inr ⟨_, rfl⟩) rfl | exact near_t (k := m.p.bank.toNat) rfl rfl (.inr ⟨_, rfl⟩) (.inl rfl) rfl)
  rw [if_neg h5]
  by_cases h6 : x.op = 20
  · rw [if_pos h6]
    (first | exact hf _ _ | exact haltM_near _ _ _ | exact turnM_near _ _ _ _ _ _ | exact loadM_near _ _ _ _ | exact storeM_near _ _ _ _ hu (.inr rfl) | exact storeM_near _ _ _ _ hu (.inl rfl) | exact winM_near _ _ _ | exact near_0 rfl rfl rfl rfl rfl | exact near_out rfl rfl rfl rfl rfl | exact near_f (w := m.p.cwp.toNat) (bk := m.p.bank.toNat) (r := (15 : Int).toNat) (x := m.pc) rfl rfl rfl rfl rfl | exact near_f (w := m.p.cwp.toNat) (bk := m.p.bank.toNat) (r := x.rd.toNat) (x := m.pc) rfl rfl rfl rfl rfl | exact near_f (w := m.p.cwp.toNat) (bk := m.p.bank.toNat) (r := x.rd.toNat) (x := m.ch.headD 0) rfl rfl rfl rfl rfl | exact near_t (k := m.p.bank.toNat) rfl rfl (.inl rfl) (.inr ⟨_, rfl⟩) rfl | exact near_t (k := m.p.bank.toNat) rfl rfl (.inr ⟨_, rfl⟩) (.inl rfl) rfl)
  rw [if_neg h6]
  by_cases h7 : x.op = 21
  · rw [if_pos h7]
    (first | exact hf _ _ | exact haltM_near _ _ _ | exact turnM_near _ _ _ _ _ _ | exact loadM_near _ _ _ _ | exact storeM_near _ _ _ _ hu (.inr rfl) | exact storeM_near _ _ _ _ hu (.inl rfl) | exact winM_near _ _ _ | exact near_0 rfl rfl rfl rfl rfl | exact near_out rfl rfl rfl rfl rfl | exact near_f (w := m.p.cwp.toNat) (bk := m.p.bank.toNat) (r := (15 : Int).toNat) (x := m.pc) rfl rfl rfl rfl rfl | exact near_f (w := m.p.cwp.toNat) (bk := m.p.bank.toNat) (r := x.rd.toNat) (x := m.pc) rfl rfl rfl rfl rfl | exact near_f (w := m.p.cwp.toNat) (bk := m.p.bank.toNat) (r := x.rd.toNat) (x := m.ch.headD 0) rfl rfl rfl rfl rfl | exact near_t (k := m.p.bank.toNat) rfl rfl (.inl rfl) (.inr ⟨_, rfl⟩) rfl | exact near_t (k := m.p.bank.toNat) rfl rfl (.inr ⟨_, rfl⟩) (.inl rfl) rfl)
  rw [if_neg h7]
  by_cases h8 : x.op = 22
  · rw [if_pos h8]
    (first | exact hf _ _ | exact haltM_near _ _ _ | exact turnM_near _ _ _ _ _ _ | exact loadM_near _ _ _ _ | exact storeM_near _ _ _ _ hu (.inr rfl) | exact storeM_near _ _ _ _ hu (.inl rfl) | exact winM_near _ _ _ | exact near_0 rfl rfl rfl rfl rfl | exact near_out rfl rfl rfl rfl rfl | exact near_f (w := m.p.cwp.toNat) (bk := m.p.bank.toNat) (r := (15 : Int).toNat) (x := m.pc) rfl rfl rfl rfl rfl | exact near_f (w := m.p.cwp.toNat) (bk := m.p.bank.toNat) (r := x.rd.toNat) (x := m.pc) rfl rfl rfl rfl rfl | exact near_f (w := m.p.cwp.toNat) (bk := m.p.bank.toNat) (r := x.rd.toNat) (x := m.ch.headD 0) rfl rfl rfl rfl rfl | exact near_t (k := m.p.bank.toNat) rfl rfl (.inl rfl) (.inr ⟨_, rfl⟩) rfl | exact near_t (k := m.p.bank.toNat) rfl rfl (.inr ⟨_, rfl⟩) (.inl rfl) rfl)
  rw [if_neg h8]
  by_cases h9 : x.op = 23
  · rw [if_pos h9]
    (first | exact hf _ _ | exact haltM_near _ _ _ | exact turnM_near _ _ _ _ _ _ | exact loadM_near _ _ _ _ | exact storeM_near _ _ _ _ hu (.inr rfl) | exact storeM_near _ _ _ _ hu (.inl rfl) | exact winM_near _ _ _ | exact near_0 rfl rfl rfl rfl rfl | exact near_out rfl rfl rfl rfl rfl | exact near_f (w := m.p.cwp.toNat) (bk := m.p.bank.toNat) (r := (15 : Int).toNat) (x := m.pc) rfl rfl rfl rfl rfl | exact near_f (w := m.p.cwp.toNat) (bk := m.p.bank.toNat) (r := x.rd.toNat) (x := m.pc) rfl rfl rfl rfl rfl | exact near_f (w := m.p.cwp.toNat) (bk := m.p.bank.toNat) (r := x.rd.toNat) (x := m.ch.headD 0) rfl rfl rfl rfl rfl | exact near_t (k := m.p.bank.toNat) rfl rfl (.inl rfl) (.inr ⟨_, rfl⟩) rfl | exact near_t (k := m.p.bank.toNat) rfl rfl (.inr ⟨_, rfl⟩) (.inl rfl) rfl)
  rw [if_neg h9]
  by_cases h10 : x.op = 24
  · rw [if_pos h10]
    (first | exact hf _ _ | exact haltM_near _ _ _ | exact turnM_near _ _ _ _ _ _ | exact loadM_near _ _ _ _ | exact storeM_near _ _ _ _ hu (.inr rfl) | exact storeM_near _ _ _ _ hu (.inl rfl) | exact winM_near _ _ _ | exact near_0 rfl rfl rfl rfl rfl | exact near_out rfl rfl rfl rfl rfl | exact near_f (w := m.p.cwp.toNat) (bk := m.p.bank.toNat) (r := (15 : Int).toNat) (x := m.pc) rfl rfl rfl rfl rfl | exact near_f (w := m.p.cwp.toNat) (bk := m.p.bank.toNat) (r := x.rd.toNat) (x := m.pc) rfl rfl rfl rfl rfl | exact near_f (w := m.p.cwp.toNat) (bk := m.p.bank.toNat) (r := x.rd.toNat) (x := m.ch.headD 0) rfl rfl rfl rfl rfl | exact near_t (k := m.p.bank.toNat) rfl rfl (.inl rfl) (.inr ⟨_, rfl⟩) rfl | exact near_t (k := m.p.bank.toNat) rfl rfl (.inr ⟨_, rfl⟩) (.inl rfl) rfl)
  rw [if_neg h10]
  by_cases h11 : x.op = 25
  · rw [if_pos h11]
    (first | exact hf _ _ | exact haltM_near _ _ _ | exact turnM_near _ _ _ _ _ _ | exact loadM_near _ _ _ _ | exact storeM_near _ _ _ _ hu (.inr rfl) | exact storeM_near _ _ _ _ hu (.inl rfl) | exact winM_near _ _ _ | exact near_0 rfl rfl rfl rfl rfl | exact near_out rfl rfl rfl rfl rfl | exact near_f (w := m.p.cwp.toNat) (bk := m.p.bank.toNat) (r := (15 : Int).toNat) (x := m.pc) rfl rfl rfl rfl rfl | exact near_f (w := m.p.cwp.toNat) (bk := m.p.bank.toNat) (r := x.rd.toNat) (x := m.pc) rfl rfl rfl rfl rfl | exact near_f (w := m.p.cwp.toNat) (bk := m.p.bank.toNat) (r := x.rd.toNat) (x := m.ch.headD 0) rfl rfl rfl rfl rfl | exact near_t (k := m.p.bank.toNat) rfl rfl (.inl rfl) (.inr ⟨_, rfl⟩) rfl | exact near_t (k := m.p.bank.toNat) rfl rfl (.inr ⟨_, rfl⟩) (.inl rfl) rfl)
  rw [if_neg h11]
  by_cases h12 : x.op = 26
  · rw [if_pos h12]
    (first | exact hf _ _ | exact haltM_near _ _ _ | exact turnM_near _ _ _ _ _ _ | exact loadM_near _ _ _ _ | exact storeM_near _ _ _ _ hu (.inr rfl) | exact storeM_near _ _ _ _ hu (.inl rfl) | exact winM_near _ _ _ | exact near_0 rfl rfl rfl rfl rfl | exact near_out rfl rfl rfl rfl rfl | exact near_f (w := m.p.cwp.toNat) (bk := m.p.bank.toNat) (r := (15 : Int).toNat) (x := m.pc) rfl rfl rfl rfl rfl | exact near_f (w := m.p.cwp.toNat) (bk := m.p.bank.toNat) (r := x.rd.toNat) (x := m.pc) rfl rfl rfl rfl rfl | exact near_f (w := m.p.cwp.toNat) (bk := m.p.bank.toNat) (r := x.rd.toNat) (x := m.ch.headD 0) rfl rfl rfl rfl rfl | exact near_t (k := m.p.bank.toNat) rfl rfl (.inl rfl) (.inr ⟨_, rfl⟩) rfl | exact near_t (k := m.p.bank.toNat) rfl rfl (.inr ⟨_, rfl⟩) (.inl rfl) rfl)
  rw [if_neg h12]
  by_cases h13 : x.op = 27
  · rw [if_pos h13]
    split <;> (first | exact hf _ _ | exact haltM_near _ _ _ | exact turnM_near _ _ _ _ _ _ | exact loadM_near _ _ _ _ | exact storeM_near _ _ _ _ hu (.inr rfl) | exact storeM_near _ _ _ _ hu (.inl rfl) | exact winM_near _ _ _ | exact near_0 rfl rfl rfl rfl rfl | exact near_out rfl rfl rfl rfl rfl | exact near_f (w := m.p.cwp.toNat) (bk := m.p.bank.toNat) (r := (15 : Int).toNat) (x := m.pc) rfl rfl rfl rfl rfl | exact near_f (w := m.p.cwp.toNat) (bk := m.p.bank.toNat) (r := x.rd.toNat) (x := m.pc) rfl rfl rfl rfl rfl | exact near_f (w := m.p.cwp.toNat) (bk := m.p.bank.toNat) (r := x.rd.toNat) (x := m.ch.headD 0) rfl rfl rfl rfl rfl | exact near_t (k := m.p.bank.toNat) rfl rfl (.inl rfl) (.inr ⟨_, rfl⟩) rfl | exact near_t (k := m.p.bank.toNat) rfl rfl (.inr ⟨_, rfl⟩) (.inl rfl) rfl)
  rw [if_neg h13]
  by_cases h14 : x.op = 28
  · rw [if_pos h14]
    (first | exact hf _ _ | exact haltM_near _ _ _ | exact turnM_near _ _ _ _ _ _ | exact loadM_near _ _ _ _ | exact storeM_near _ _ _ _ hu (.inr rfl) | exact storeM_near _ _ _ _ hu (.inl rfl) | exact winM_near _ _ _ | exact near_0 rfl rfl rfl rfl rfl | exact near_out rfl rfl rfl rfl rfl | exact near_f (w := m.p.cwp.toNat) (bk := m.p.bank.toNat) (r := (15 : Int).toNat) (x := m.pc) rfl rfl rfl rfl rfl | exact near_f (w := m.p.cwp.toNat) (bk := m.p.bank.toNat) (r := x.rd.toNat) (x := m.pc) rfl rfl rfl rfl rfl | exact near_f (w := m.p.cwp.toNat) (bk := m.p.bank.toNat) (r := x.rd.toNat) (x := m.ch.headD 0) rfl rfl rfl rfl rfl | exact near_t (k := m.p.bank.toNat) rfl rfl (.inl rfl) (.inr ⟨_, rfl⟩) rfl | exact near_t (k := m.p.bank.toNat) rfl rfl (.inr ⟨_, rfl⟩) (.inl rfl) rfl)
  rw [if_neg h14]
  by_cases h15 : x.op = 29
  · rw [if_pos h15]
    split <;> (first | exact hf _ _ | exact haltM_near _ _ _ | exact turnM_near _ _ _ _ _ _ | exact loadM_near _ _ _ _ | exact storeM_near _ _ _ _ hu (.inr rfl) | exact storeM_near _ _ _ _ hu (.inl rfl) | exact winM_near _ _ _ | exact near_0 rfl rfl rfl rfl rfl | exact near_out rfl rfl rfl rfl rfl | exact near_f (w := m.p.cwp.toNat) (bk := m.p.bank.toNat) (r := (15 : Int).toNat) (x := m.pc) rfl rfl rfl rfl rfl | exact near_f (w := m.p.cwp.toNat) (bk := m.p.bank.toNat) (r := x.rd.toNat) (x := m.pc) rfl rfl rfl rfl rfl | exact near_f (w := m.p.cwp.toNat) (bk := m.p.bank.toNat) (r := x.rd.toNat) (x := m.ch.headD 0) rfl rfl rfl rfl rfl | exact near_t (k := m.p.bank.toNat) rfl rfl (.inl rfl) (.inr ⟨_, rfl⟩) rfl | exact near_t (k := m.p.bank.toNat) rfl rfl (.inr ⟨_, rfl⟩) (.inl rfl) rfl)
  rw [if_neg h15]
  by_cases h16 : x.op = 30
  · rw [if_pos h16]
    split
    · (first | exact hf _ _ | exact haltM_near _ _ _ | exact turnM_near _ _ _ _ _ _ | exact loadM_near _ _ _ _ | exact storeM_near _ _ _ _ hu (.inr rfl) | exact storeM_near _ _ _ _ hu (.inl rfl) | exact winM_near _ _ _ | exact near_0 rfl rfl rfl rfl rfl | exact near_out rfl rfl rfl rfl rfl | exact near_f (w := m.p.cwp.toNat) (bk := m.p.bank.toNat) (r := (15 : Int).toNat) (x := m.pc) rfl rfl rfl rfl rfl | exact near_f (w := m.p.cwp.toNat) (bk := m.p.bank.toNat) (r := x.rd.toNat) (x := m.pc) rfl rfl rfl rfl rfl | exact near_f (w := m.p.cwp.toNat) (bk := m.p.bank.toNat) (r := x.rd.toNat) (x := m.ch.headD 0) rfl rfl rfl rfl rfl | exact near_t (k := m.p.bank.toNat) rfl rfl (.inl rfl) (.inr ⟨_, rfl⟩) rfl | exact near_t (k := m.p.bank.toNat) rfl rfl (.inr ⟨_, rfl⟩) (.inl rfl) rfl)
    · first
      | (first | exact hf _ _ | exact haltM_near _ _ _ | exact turnM_near _ _ _ _ _ _ | exact loadM_near _ _ _ _ | exact storeM_near _ _ _ _ hu (.inr rfl) | exact storeM_near _ _ _ _ hu (.inl rfl) | exact winM_near _ _ _ | exact near_0 rfl rfl rfl rfl rfl | exact near_out rfl rfl rfl rfl rfl | exact near_f (w := m.p.cwp.toNat) (bk := m.p.bank.toNat) (r := (15 : Int).toNat) (x := m.pc) rfl rfl rfl rfl rfl | exact near_f (w := m.p.cwp.toNat) (bk := m.p.bank.toNat) (r := x.rd.toNat) (x := m.pc) rfl rfl rfl rfl rfl | exact near_f (w := m.p.cwp.toNat) (bk := m.p.bank.toNat) (r := x.rd.toNat) (x := m.ch.headD 0) rfl rfl rfl rfl rfl | exact near_t (k := m.p.bank.toNat) rfl rfl (.inl rfl) (.inr ⟨_, rfl⟩) rfl | exact near_t (k := m.p.bank.toNat) rfl rfl (.inr ⟨_, rfl⟩) (.inl rfl) rfl)
      | (split <;> (first | exact hf _ _ | exact haltM_near _ _ _ | exact turnM_near _ _ _ _ _ _ | exact loadM_near _ _ _ _ | exact storeM_near _ _ _ _ hu (.inr rfl) | exact storeM_near _ _ _ _ hu (.inl rfl) | exact winM_near _ _ _ | exact near_0 rfl rfl rfl rfl rfl | exact near_out rfl rfl rfl rfl rfl | exact near_f (w := m.p.cwp.toNat) (bk := m.p.bank.toNat) (r := (15 : Int).toNat) (x := m.pc) rfl rfl rfl rfl rfl | exact near_f (w := m.p.cwp.toNat) (bk := m.p.bank.toNat) (r := x.rd.toNat) (x := m.pc) rfl rfl rfl rfl rfl | exact near_f (w := m.p.cwp.toNat) (bk := m.p.bank.toNat) (r := x.rd.toNat) (x := m.ch.headD 0) rfl rfl rfl rfl rfl | exact near_t (k := m.p.bank.toNat) rfl rfl (.inl rfl) (.inr ⟨_, rfl⟩) rfl | exact near_t (k := m.p.bank.toNat) rfl rfl (.inr ⟨_, rfl⟩) (.inl rfl) rfl))
  rw [if_neg h16]
  by_cases h17 : x.op = 31
  · rw [if_pos h17]
    split
    · (first | exact hf _ _ | exact haltM_near _ _ _ | exact turnM_near _ _ _ _ _ _ | exact loadM_near _ _ _ _ | exact storeM_near _ _ _ _ hu (.inr rfl) | exact storeM_near _ _ _ _ hu (.inl rfl) | exact winM_near _ _ _ | exact near_0 rfl rfl rfl rfl rfl | exact near_out rfl rfl rfl rfl rfl | exact near_f (w := m.p.cwp.toNat) (bk := m.p.bank.toNat) (r := (15 : Int).toNat) (x := m.pc) rfl rfl rfl rfl rfl | exact near_f (w := m.p.cwp.toNat) (bk := m.p.bank.toNat) (r := x.rd.toNat) (x := m.pc) rfl rfl rfl rfl rfl | exact near_f (w := m.p.cwp.toNat) (bk := m.p.bank.toNat) (r := x.rd.toNat) (x := m.ch.headD 0) rfl rfl rfl rfl rfl | exact near_t (k := m.p.bank.toNat) rfl rfl (.inl rfl) (.inr ⟨_, rfl⟩) rfl | exact near_t (k := m.p.bank.toNat) rfl rfl (.inr ⟨_, rfl⟩) (.inl rfl) rfl)
    · first
      | (first | exact hf _ _ | exact haltM_near _ _ _ | exact turnM_near _ _ _ _ _ _ | exact loadM_near _ _ _ _ | exact storeM_near _ _ _ _ hu (.inr rfl) | exact storeM_near _ _ _ _ hu (.inl rfl) | exact winM_near _ _ _ | exact near_0 rfl rfl rfl rfl rfl | exact near_out rfl rfl rfl rfl rfl | exact near_f (w := m.p.cwp.toNat) (bk := m.p.bank.toNat) (r := (15 : Int).toNat) (x := m.pc) rfl rfl rfl rfl rfl | exact near_f (w := m.p.cwp.toNat) (bk := m.p.bank.toNat) (r := x.rd.toNat) (x := m.pc) rfl rfl rfl rfl rfl | exact near_f (w := m.p.cwp.toNat) (bk := m.p.bank.toNat) (r := x.rd.toNat) (x := m.ch.headD 0) rfl rfl rfl rfl rfl | exact near_t (k := m.p.bank.toNat) rfl rfl (.inl rfl) (.inr ⟨_, rfl⟩) rfl | exact near_t (k := m.p.bank.toNat) rfl rfl (.inr ⟨_, rfl⟩) (.inl rfl) rfl)
      | (split <;> (first | exact hf _ _ | exact haltM_near _ _ _ | exact turnM_near _ _ _ _ _ _ | exact loadM_near _ _ _ _ | exact storeM_near _ _ _ _ hu (.inr rfl) | exact storeM_near _ _ _ _ hu (.inl rfl) | exact winM_near _ _ _ | exact near_0 rfl rfl rfl rfl rfl | exact near_out rfl rfl rfl rfl rfl | exact near_f (w := m.p.cwp.toNat) (bk := m.p.bank.toNat) (r := (15 : Int).toNat) (x := m.pc) rfl rfl rfl rfl rfl | exact near_f (w := m.p.cwp.toNat) (bk := m.p.bank.toNat) (r := x.rd.toNat) (x := m.pc) rfl rfl rfl rfl rfl | exact near_f (w := m.p.cwp.toNat) (bk := m.p.bank.toNat) (r := x.rd.toNat) (x := m.ch.headD 0) rfl rfl rfl rfl rfl | exact near_t (k := m.p.bank.toNat) rfl rfl (.inl rfl) (.inr ⟨_, rfl⟩) rfl | exact near_t (k := m.p.bank.toNat) rfl rfl (.inr ⟨_, rfl⟩) (.inl rfl) rfl))
  rw [if_neg h17]
  by_cases h18 : x.op = 32
  · rw [if_pos h18]
    split
    · (first | exact hf _ _ | exact haltM_near _ _ _ | exact turnM_near _ _ _ _ _ _ | exact loadM_near _ _ _ _ | exact storeM_near _ _ _ _ hu (.inr rfl) | exact storeM_near _ _ _ _ hu (.inl rfl) | exact winM_near _ _ _ | exact near_0 rfl rfl rfl rfl rfl | exact near_out rfl rfl rfl rfl rfl | exact near_f (w := m.p.cwp.toNat) (bk := m.p.bank.toNat) (r := (15 : Int).toNat) (x := m.pc) rfl rfl rfl rfl rfl | exact near_f (w := m.p.cwp.toNat) (bk := m.p.bank.toNat) (r := x.rd.toNat) (x := m.pc) rfl rfl rfl rfl rfl | exact near_f (w := m.p.cwp.toNat) (bk := m.p.bank.toNat) (r := x.rd.toNat) (x := m.ch.headD 0) rfl rfl rfl rfl rfl | exact near_t (k := m.p.bank.toNat) rfl rfl (.inl rfl) (.inr ⟨_, rfl⟩) rfl | exact near_t (k := m.p.bank.toNat) rfl rfl (.inr ⟨_, rfl⟩) (.inl rfl) rfl)
    · split <;> (first | exact hf _ _ | exact haltM_near _ _ _ | exact turnM_near _ _ _ _ _ _ | exact loadM_near _ _ _ _ | exact storeM_near _ _ _ _ hu (.inr rfl) | exact storeM_near _ _ _ _ hu (.inl rfl) | exact winM_near _ _ _ | exact near_0 rfl rfl rfl rfl rfl | exact near_out rfl rfl rfl rfl rfl | exact near_f (w := m.p.cwp.toNat) (bk := m.p.bank.toNat) (r := (15 : Int).toNat) (x := m.pc) rfl rfl rfl rfl rfl | exact near_f (w := m.p.cwp.toNat) (bk := m.p.bank.toNat) (r := x.rd.toNat) (x := m.pc) rfl rfl rfl rfl rfl | exact near_f (w := m.p.cwp.toNat) (bk := m.p.bank.toNat) (r := x.rd.toNat) (x := m.ch.headD 0) rfl rfl rfl rfl rfl | exact near_t (k := m.p.bank.toNat) rfl rfl (.inl rfl) (.inr ⟨_, rfl⟩) rfl | exact near_t (k := m.p.bank.toNat) rfl rfl (.inr ⟨_, rfl⟩) (.inl rfl) rfl)
  rw [if_neg h18]
  by_cases h19 : x.op = 33
  · rw [if_pos h19]
    (first | exact hf _ _ | exact haltM_near _ _ _ | exact turnM_near _ _ _ _ _ _ | exact loadM_near _ _ _ _ | exact storeM_near _ _ _ _ hu (.inr rfl) | exact storeM_near _ _ _ _ hu (.inl rfl) | exact winM_near _ _ _ | exact near_0 rfl rfl rfl rfl rfl | exact near_out rfl rfl rfl rfl rfl | exact near_f (w := m.p.cwp.toNat) (bk := m.p.bank.toNat) (r := (15 : Int).toNat) (x := m.pc) rfl rfl rfl rfl rfl | exact near_f (w := m.p.cwp.toNat) (bk := m.p.bank.toNat) (r := x.rd.toNat) (x := m.pc) rfl rfl rfl rfl rfl | exact near_f (w := m.p.cwp.toNat) (bk := m.p.bank.toNat) (r := x.rd.toNat) (x := m.ch.headD 0) rfl rfl rfl rfl rfl | exact near_t (k := m.p.bank.toNat) rfl rfl (.inl rfl) (.inr ⟨_, rfl⟩) rfl | exact near_t (k := m.p.bank.toNat) rfl rfl (.inr ⟨_, rfl⟩) (.inl rfl) rfl)
  rw [if_neg h19]
  by_cases h20 : x.op = 34
  · rw [if_pos h20]
    (first | exact hf _ _ | exact haltM_near _ _ _ | exact turnM_near _ _ _ _ _ _ | exact loadM_near _ _ _ _ | exact storeM_near _ _ _ _ hu (.inr rfl) | exact storeM_near _ _ _ _ hu (.inl rfl) | exact winM_near _ _ _ | exact near_0 rfl rfl rfl rfl rfl | exact near_out rfl rfl rfl rfl rfl | exact near_f (w := m.p.cwp.toNat) (bk := m.p.bank.toNat) (r := (15 : Int).toNat) (x := m.pc) rfl rfl rfl rfl rfl | exact near_f (w := m.p.cwp.toNat) (bk := m.p.bank.toNat) (r := x.rd.toNat) (x := m.pc) rfl rfl rfl rfl rfl | exact near_f (w := m.p.cwp.toNat) (bk := m.p.bank.toNat) (r := x.rd.toNat) (x := m.ch.headD 0) rfl rfl rfl rfl rfl | exact near_t (k := m.p.bank.toNat) rfl rfl (.inl rfl) (.inr ⟨_, rfl⟩) rfl | exact near_t (k := m.p.bank.toNat) rfl rfl (.inr ⟨_, rfl⟩) (.inl rfl) rfl)
  rw [if_neg h20]
  by_cases h21 : x.op = 35
  · rw [if_pos h21]
    (first | exact hf _ _ | exact haltM_near _ _ _ | exact turnM_near _ _ _ _ _ _ | exact loadM_near _ _ _ _ | exact storeM_near _ _ _ _ hu (.inr rfl) | exact storeM_near _ _ _ _ hu (.inl rfl) | exact winM_near _ _ _ | exact near_0 rfl rfl rfl rfl rfl | exact near_out rfl rfl rfl rfl rfl | exact near_f (w := m.p.cwp.toNat) (bk := m.p.bank.toNat) (r := (15 : Int).toNat) (x := m.pc) rfl rfl rfl rfl rfl | exact near_f (w := m.p.cwp.toNat) (bk := m.p.bank.toNat) (r := x.rd.toNat) (x := m.pc) rfl rfl rfl rfl rfl | exact near_f (w := m.p.cwp.toNat) (bk := m.p.bank.toNat) (r := x.rd.toNat) (x := m.ch.headD 0) rfl rfl rfl rfl rfl | exact near_t (k := m.p.bank.toNat) rfl rfl (.inl rfl) (.inr ⟨_, rfl⟩) rfl | exact near_t (k := m.p.bank.toNat) rfl rfl (.inr ⟨_, rfl⟩) (.inl rfl) rfl)
  rw [if_neg h21]
  by_cases h22 : x.op = 36
  · rw [if_pos h22]
    (first | exact hf _ _ | exact haltM_near _ _ _ | exact turnM_near _ _ _ _ _ _ | exact loadM_near _ _ _ _ | exact storeM_near _ _ _ _ hu (.inr rfl) | exact storeM_near _ _ _ _ hu (.inl rfl) | exact winM_near _ _ _ | exact near_0 rfl rfl rfl rfl rfl | exact near_out rfl rfl rfl rfl rfl | exact near_f (w := m.p.cwp.toNat) (bk := m.p.bank.toNat) (r := (15 : Int).toNat) (x := m.pc) rfl rfl rfl rfl rfl | exact near_f (w := m.p.cwp.toNat) (bk := m.p.bank.toNat) (r := x.rd.toNat) (x := m.pc) rfl rfl rfl rfl rfl | exact near_f (w := m.p.cwp.toNat) (bk := m.p.bank.toNat) (r := x.rd.toNat) (x := m.ch.headD 0) rfl rfl rfl rfl rfl | exact near_t (k := m.p.bank.toNat) rfl rfl (.inl rfl) (.inr ⟨_, rfl⟩) rfl | exact near_t (k := m.p.bank.toNat) rfl rfl (.inr ⟨_, rfl⟩) (.inl rfl) rfl)
  rw [if_neg h22]
  (first | exact hf _ _ | exact haltM_near _ _ _ | exact turnM_near _ _ _ _ _ _ | exact loadM_near _ _ _ _ | exact storeM_near _ _ _ _ hu (.inr rfl) | exact storeM_near _ _ _ _ hu (.inl rfl) | exact winM_near _ _ _ | exact near_0 rfl rfl rfl rfl rfl | exact near_out rfl rfl rfl rfl rfl | exact near_f (w := m.p.cwp.toNat) (bk := m.p.bank.toNat) (r := (15 : Int).toNat) (x := m.pc) rfl rfl rfl rfl rfl | exact near_f (w := m.p.cwp.toNat) (bk := m.p.bank.toNat) (r := x.rd.toNat) (x := m.pc) rfl rfl rfl rfl rfl | exact near_f (w := m.p.cwp.toNat) (bk := m.p.bank.toNat) (r := x.rd.toNat) (x := m.ch.headD 0) rfl rfl rfl rfl rfl | exact near_t (k := m.p.bank.toNat) rfl rfl (.inl rfl) (.inr ⟨_, rfl⟩) rfl | exact near_t (k := m.p.bank.toNat) rfl rfl (.inr ⟨_, rfl⟩) (.inl rfl) rfl)
theorem stepM_near (m : Mx) (level : Int) : Near m (stepM m level) := by
  unfold stepM
  split
  · exact near_0 rfl rfl rfl rfl rfl
  · split
    · exact near_t (k := level.toNat) rfl rfl (.inr ⟨_, rfl⟩) (.inr ⟨_, rfl⟩) rfl
    · unfold runM
      split
      · exact haltM_near _ _ _
      · exact opS_near _ _ _ _
theorem winR_at (f : Fx) (w j : Nat) : (winR f w).getD j 0 = if j < 16 then f.win.getD (16 * w + j) 0 else 0 := by
  unfold winR
  rw [List.getD_eq_getElem?_getD, List.getElem?_take]
  split
  · rw [List.getElem?_drop, List.getD_eq_getElem?_getD]
  · rfl
def winsN (a b : Fx) (k : Nat) : Nat := sumN (fun w => unlikeL (winV a w) (winV b w)) k
def glosB (a b : Fx) (bank : Nat) (r : Nat) : Bool := neB (getV a 0 bank r) (getV b 0 bank r)
def glosN (a b : Fx) (k : Nat) : Nat := sumN (fun bank => cntN (glosB a b bank) 8) k
def tVn (m : Mx) (b : Nat) : Int × Int := if 1 ≤ b ∧ b < 17 then (m.tpc.getD b 0, m.tpsr.getD b 0) else (0, 0)
def bankB (a b : Mx) (k : Nat) : Bool := neB (tVn a k).1 (tVn b k).1 || neB (tVn a k).2 (tVn b k).2
def banksN (a b : Mx) (k : Nat) : Nat := cntN (bankB a b) k
theorem getD_set_other (l : List Int) (i j : Nat) (x : Int) (h : i ≠ j) : (l.set i x).getD j 0 = l.getD j 0 := by
  rw [List.getD_eq_getElem?_getD, List.getD_eq_getElem?_getD, List.getElem?_set_ne h]
theorem regOk_nw {a b : Fx} (h : b.nw = a.nw) (w k r : Int) : regOk b w k r ↔ regOk a w k r := by unfold regOk; rw [h]
theorem winV_nw {a b : Fx} (h : b.nw = a.nw) (w : Nat) : (winV a w = [] ∧ winV b w = []) ∨ (winV a w = winR a w ∧ winV b w = winR b w) := by
  unfold winV
  by_cases hc : regOk a w 0 0
  · rw [if_pos hc, if_pos ((regOk_nw h _ _ _).2 hc)]; exact .inr ⟨rfl, rfl⟩
  · rw [if_neg hc, if_neg (fun hb => hc ((regOk_nw h _ _ _).1 hb))]; exact .inl ⟨rfl, rfl⟩
theorem winV_unl {a b : Fx} (h : b.nw = a.nw) (i : Nat) (x : Int) (hw : b.win = a.win.set i x) (w : Nat) : unlikeL (winV a w) (winV b w) ≤ 1 ∧ (w ≠ i / 16 → unlikeL (winV a w) (winV b w) = 0) := by
  rcases winV_nw h w with ⟨e1, e2⟩ | ⟨e1, e2⟩
  · rw [e1, e2, unl_same]; exact ⟨by omega, fun _ => rfl⟩
  rw [e1, e2]
  constructor
  · refine unl_one (i % 16) (fun j hj => ?_)
    rw [winR_at, winR_at, hw]
    split
    · rw [getD_set_other _ _ _ _ (by omega)]
    · rfl
  · intro hne
    refine cnt_zero _ _ (fun j hj => ?_)
    show neB ((winR a w).getD j 0) ((winR b w).getD j 0) = false
    rw [winR_at, winR_at, hw]
    split
    · rw [getD_set_other _ _ _ _ (by omega), neB_self]
    · exact neB_self _
theorem winV_same {a b : Fx} (h : b.nw = a.nw) (hw : b.win = a.win) (w : Nat) : unlikeL (winV a w) (winV b w) = 0 := by
  have e : winV b w = winV a w := by
    rcases winV_nw h w with ⟨e1, e2⟩ | ⟨e1, e2⟩
    · rw [e1, e2]
    · rw [e1, e2]; unfold winR; rw [hw]
  rw [e, unl_same]
theorem getV_glo {a b : Fx} (h : b.nw = a.nw) (hw : b.win = a.win) (bank r : Nat) (hr : r < 8) (hg : b.glo.getD (bank * 8 + r) 0 = a.glo.getD (bank * 8 + r) 0) : glosB a b bank r = false := by
  have e : getV b 0 bank r = getV a 0 bank r := by
    unfold getV
    by_cases hc : regOk a 0 bank r
    · rw [if_pos hc, if_pos ((regOk_nw h _ _ _).2 hc)]
      show getF b 0 bank r = getF a 0 bank r
      unfold getF
      split
      · rfl
      · rw [hg]
    · rw [if_neg hc, if_neg (fun hb => hc ((regOk_nw h _ _ _).1 hb))]
  unfold glosB
  rw [e, neB_self]
theorem getV_glo2 {a b : Fx} (h : b.nw = a.nw) (bank r : Nat) (hr : r < 8) (hg : b.glo = a.glo) : glosB a b bank r = false := by
  have e : getV b 0 bank r = getV a 0 bank r := by
    unfold getV
    by_cases hc : regOk a 0 bank r
    · rw [if_pos hc, if_pos ((regOk_nw h _ _ _).2 hc)]
      show getF b 0 bank r = getF a 0 bank r
      unfold getF
      split
      · rfl
      · rw [hg]
    · rw [if_neg hc, if_neg (fun hb => hc ((regOk_nw h _ _ _).1 hb))]
  unfold glosB
  rw [e, neB_self]
/-- The registers. -/
theorem near_regs {a b : Mx} (h : Near a b) (n t : Nat) : winsN a.f b.f n + glosN a.f b.f t ≤ 1 ∧ winsN a.f b.f n ≤ 1 ∧ glosN a.f b.f t ≤ 1 := by
  rcases h.f with ⟨hg, i, x, hw⟩ | ⟨hw, i, x, hg⟩
  · have h1 : glosN a.f b.f t = 0 := sum_zero _ _ (fun bank _ => cnt_zero _ _ (fun r hr => getV_glo2 h.nw bank r hr hg))
    have h2 : winsN a.f b.f n ≤ 1 := sum_one _ (i / 16) (winV_unl h.nw i x hw (i / 16)).1 _ (fun w _ hne => (winV_unl h.nw i x hw w).2 hne)
    omega
  · have h1 : winsN a.f b.f n = 0 := sum_zero _ _ (fun w _ => winV_same h.nw hw w)
    have h2 : glosN a.f b.f t ≤ 1 := by
      refine sum_one _ (i / 8) ?_ _ (fun bank _ hne => cnt_zero _ _ (fun r hr => getV_glo h.nw hw bank r hr (by rw [hg, getD_set_other _ _ _ _ (by omega)])))
      refine cnt_one _ (i % 8) _ (fun r hr hb => ?_)
      by_cases e : r = i % 8
      · exact e
      · rw [getV_glo h.nw hw (i / 8) r hr (by rw [hg, getD_set_other _ _ _ _ (by omega)])] at hb
        cases hb
    omega
theorem cnt_mono (f : Nat → Bool) (r : Nat) : ∀ n, r ≤ n → cntN f r ≤ cntN f n
  | 0, h => by rw [show r = 0 by omega]; exact Nat.le_refl _
  | n + 1, h => by
    by_cases e : r = n + 1
    · rw [e]; exact Nat.le_refl _
    · have := cnt_mono f r n (by omega)
      show cntN f r ≤ cntN f n + (if f n = true then 1 else 0)
      omega
theorem near_part {a b : Mx} (h : Near a b) (t r : Nat) (hr : r ≤ 8) : glosN a.f b.f t + cntN (glosB a.f b.f t) r ≤ 1 := by
  have h1 := (near_regs h 0 (t + 1)).2.2
  have h2 := cnt_mono (glosB a.f b.f t) r 8 hr
  have h3 : glosN a.f b.f (t + 1) = glosN a.f b.f t + cntN (glosB a.f b.f t) 8 := rfl
  omega
theorem near_banks {a b : Mx} (h : Near a b) (n : Nat) : banksN a b n ≤ 1 := by
  obtain ⟨k, h1, h2⟩ := h.t
  refine cnt_one _ k _ (fun i hi hb => ?_)
  by_cases e : i = k
  · exact e
  · have e1 : b.tpc.getD i 0 = a.tpc.getD i 0 := by
      rcases h1 with h1 | ⟨u, h1⟩
      · rw [h1]
      · rw [h1, getD_set_other _ _ _ _ (fun h => e h.symm)]
    have e2 : b.tpsr.getD i 0 = a.tpsr.getD i 0 := by
      rcases h2 with h2 | ⟨u, h2⟩
      · rw [h2]
      · rw [h2, getD_set_other _ _ _ _ (fun h => e h.symm)]
    have e3 : tVn b i = tVn a i := by unfold tVn; rw [e1, e2]
    unfold bankB at hb
    rw [e3, neB_self, neB_self] at hb
    cases hb
theorem near_len {a b : Mx} (h : Near a b) : b.mem.length = a.mem.length := by
  rcases h.mem with h | ⟨p, q, x, _, _, _, h⟩
  · rw [h]
  · rw [h, storeV_len]
theorem loadS_congr {d e : List Int} {a : Nat} (h : ∀ j, a ≤ j → j < a + 4 → d.getD j 0 = e.getD j 0) : loadS d a 4 = loadS e a 4 := by
  unfold loadS
  rw [if_pos rfl, if_pos rfl, h a (by omega) (by omega), h (a + 1) (by omega) (by omega), h (a + 2) (by omega) (by omega), h (a + 3) (by omega) (by omega)]
theorem wordsS_getD (d : List Int) (n i : Nat) : (wordsS d 0 n).getD i 0 = if i < n then loadS d (4 * i) 4 else 0 := by
  by_cases hi : i < n
  · rw [if_pos hi, wordsS_at d 0 n i hi, Nat.zero_add]
  · rw [if_neg hi, List.getD_eq_getElem?_getD, List.getElem?_eq_none (by simp [wordsS]; omega)]; rfl
theorem near_words {a b : Mx} (h : Near a b) (n : Nat) : unlikeL (wordsS a.mem 0 n) (wordsS b.mem 0 n) ≤ 1 := by
  rcases h.mem with h | ⟨p, q, x, h0, hq, hs, h⟩
  · rw [h, unl_same]; omega
  · have hsp := spanE_ok hs h0
    refine unl_one (p.toNat / 4) (fun i hi => ?_)
    rw [wordsS_getD, wordsS_getD, h]
    split
    · refine loadS_congr (fun j hj1 hj2 => ?_)
      rw [byte_out _ _ _ _ j h0 hq (fun hc => ?_)]
      obtain ⟨_, hc2, hc3⟩ := hc
      have hal : q = 1 ∨ p % 4 = 0 := by
        rcases hq with hq | hq
        · exact .inl hq
        · right
          unfold spanE at hs
          subst hq
          rw [if_neg (by omega)] at hs
          split at hs
          · cases hs
          · omega
      rcases hal with hal | hal <;> rcases hq with hq | hq <;> omega
    · rfl
theorem near_out_len {a b : Mx} (h : Near a b) : a.out.length ≤ b.out.length ∧ b.out.length ≤ a.out.length + 1 ∧ b.out.take a.out.length = a.out := by
  rcases h.out with h | ⟨x, h⟩
  · rw [h]; exact ⟨Nat.le_refl _, by omega, List.take_length⟩
  · rw [h]; exact ⟨by simp, by simp, by simp⟩
/-- A machine that does not run. -/
theorem stepM_still {m : Mx} (h : m.kind ≠ 0) (level : Int) : stepM m level = m := if_pos h
theorem still_regs (f : Fx) (n t : Nat) : winsN f f n = 0 ∧ glosN f f t = 0 :=
  ⟨sum_zero _ _ (fun w _ => unl_same _), sum_zero _ _ (fun bank _ => cnt_zero _ _ (fun r _ => neB_self _))⟩
theorem still_banks (m : Mx) (n : Nat) : banksN m m n = 0 := cnt_zero _ _ (fun i _ => by unfold bankB; rw [neB_self, neB_self]; rfl)
end Go.Proofs.YtgdebchbdmogcaaGreatDoor
/- The walk of muntinlaw06.unlike. -/
namespace Go.Proofs.YtgdebchbdmogcaaGreatDoor
open Go.RowKit
set_option linter.unusedVariables false
set_option linter.unusedSimpArgs false
set_option maxHeartbeats 2000000 in
theorem unlike_any (w : World) (u v : Value) (a b : List Int) (hu : Reads32 w u a) (hv : Reads32 w v b) :
    Calls Tryz.prog 11 #[u, v] w fun e w' => e = .returned (.int .i64 (unlikeL a b : Int)) ∧ ∃ n, w' = w.drewN n := by
  obtain ⟨ba, oa, pa, ca, rfl, la, qa, ha⟩ := hu.shape
  obtain ⟨bb, ob, pb, cb, rfl, lb, qb, hb⟩ := hv.shape
  unfold maxLen at la lb
  have QA := mhid (And.intro qa ha)
  have QB := mhid (And.intro qb hb)
  obtain ⟨f, hf⟩ : ∃ f : Nat → Bool, f = fun i => neB (a.getD i 0) (b.getD i 0) := ⟨_, rfl⟩
  have HF := mhid hf
  have HU := mhid (show ∀ k, k = min a.length b.length → (unlikeL a b : Int) = (cntN f k : Int) from fun k hk => by rw [hk, hf]; rfl)
  generalize (unlikeL a b : Int) = R at HU ⊢
  clear qa ha qb hb hu hv hf
  go_enter Tryz.func11, Tryz.ntmps11
  go_wp2_with fail
  go_loopw [5, 6] (fun s i wr => ∃ k c : Nat, k ≤ a.length ∧ k ≤ b.length ∧ i = .int .i64 (k : Int) ∧ s = .int .i64 (c : Int) ∧ c ≤ k ∧ Hid (c = cntN f k) ∧ (∃ n, wr = w.drewN n)) (fun _ i _ => a.length - (intOf i).toNat)
  case atStart => exact ⟨0, 0, Nat.zero_le _, Nat.zero_le _, rfl, rfl, Nat.le_refl _, mhid rfl, 0, rfl⟩
  case round =>
    obtain ⟨k, c, hka, hkb, rfl, rfl, hck, hc, n, rfl⟩ := hrel
    have HC := mhid hc.out
    clear hc
    have HEND := mhid (show k = min a.length b.length → R = (c : Int) from fun h => by rw [HU.out k h, ← HC.out])
    have HST := mhid (show ∀ d : Nat, d = (if f k = true then c + 1 else c) → d = cntN f (k + 1) from fun d hd => by
      show d = cntN f k + (if f k = true then 1 else 0)
      rw [← HC.out, hd]
      split <;> rfl)
    rcases Nat.lt_or_ge k a.length with h1 | h1
    · have g1 : (k : Int) < a.length := by omega
      rcases Nat.lt_or_ge k b.length with h2 | h2
      · have g2 : (k : Int) < b.length := by omega
        obtain rfl := QA.out.1 (by omega)
        obtain rfl := QB.out.1 (by omega)
        have c1 := QA.out.2 k h1
        have c2 := QB.out.2 k h2
        have HFK := mhid (show f k = neB (a.getD k 0) (b.getD k 0) by rw [HF.out])
        generalize a.getD k 0 = x at c1 HFK
        generalize b.getD k 0 = y at c2 HFK
        by_cases hxy : x = y
        · subst hxy
          have HD := mhid (HST.out c (by rw [HFK.out, neB_self]; rfl))
          go_wp2_with fail
          go_quiet (fail)
          go_wp2_with fail
          exact ⟨⟨k + 1, c, by omega, by omega, by go_num, rfl, by omega, HD, _, rfl⟩, by simp [intOf] <;> omega⟩
        · have hb0 : (x == y) = false := by rw [beq_eq_false_iff_ne]; exact hxy
          have HD := mhid (HST.out (c + 1) (by rw [HFK.out]; unfold neB; rw [hb0]; rfl))
          go_wp2_with fail
          go_quiet (fail)
          go_wp2_with fail
          exact ⟨⟨k + 1, c + 1, by omega, by omega, by go_num, by go_num, by omega, HD, _, rfl⟩, by simp [intOf] <;> omega⟩
      · have g2 : ¬ (k : Int) < b.length := by omega
        have HE := mhid (HEND.out (by omega))
        go_wp2_with fail
        go_ret
        rw [HE.out]
        exact ⟨rfl, n, rfl⟩
    · have g1 : ¬ (k : Int) < a.length := by omega
      have HE := mhid (HEND.out (by omega))
      go_wp2_with fail
      go_ret
      rw [HE.out]
      exact ⟨rfl, n, rfl⟩
end Go.Proofs.YtgdebchbdmogcaaGreatDoor
/- How many choices are left; a cell that is none of a machine's. -/
namespace Go.Proofs.YtgdebchbdmogcaaGreatDoor
open Go.RowKit
set_option linter.unusedVariables false
set_option linter.unusedSimpArgs false
theorem winM_ch (m : Mx) (kind pc : Int) : (winM m kind pc).ch.length ≤ m.ch.length := by unfold winM; split <;> exact Nat.le_refl _
theorem turnM_ch (m : Mx) (rd a b to kind : Int) : (turnM m rd a b to kind).ch.length ≤ m.ch.length := by
  unfold turnM; split
  · exact winM_ch _ _ _
  · exact Nat.le_refl _
theorem loadM_ch (m : Mx) (rd at' many : Int) : (loadM m rd at' many).ch.length ≤ m.ch.length := by unfold loadM; split <;> exact Nat.le_refl _
theorem storeM_ch (m : Mx) (rd at' many : Int) : (storeM m rd at' many).ch.length ≤ m.ch.length := by unfold storeM; split <;> exact Nat.le_refl _
theorem opS_ch (m : Mx) (x : Ix) (a b : Int) : (opS m x a b).ch.length ≤ m.ch.length := by
  unfold opS
  by_cases h0 : x.op ≤ 14
  · rw [if_pos h0]
    split <;> (first | exact Nat.le_refl _ | exact turnM_ch _ _ _ _ _ _ | exact loadM_ch _ _ _ _ | exact storeM_ch _ _ _ _ | exact winM_ch _ _ _ | (show m.ch.tail.length ≤ m.ch.length; simp; done))
  rw [if_neg h0]
  by_cases h1 : x.op = 15
  · rw [if_pos h1]
    (first | exact Nat.le_refl _ | exact turnM_ch _ _ _ _ _ _ | exact loadM_ch _ _ _ _ | exact storeM_ch _ _ _ _ | exact winM_ch _ _ _ | (show m.ch.tail.length ≤ m.ch.length; simp; done))
  rw [if_neg h1]
  by_cases h2 : x.op = 16
  · rw [if_pos h2]
    (first | exact Nat.le_refl _ | exact turnM_ch _ _ _ _ _ _ | exact loadM_ch _ _ _ _ | exact storeM_ch _ _ _ _ | exact winM_ch _ _ _ | (show m.ch.tail.length ≤ m.ch.length; simp; done))
  rw [if_neg h2]
  by_cases h3 : x.op = 17
  · rw [if_pos h3]
    split <;> (first | exact Nat.le_refl _ | exact turnM_ch _ _ _ _ _ _ | exact loadM_ch _ _ _ _ | exact storeM_ch _ _ _ _ | exact winM_ch _ _ _ | (show m.ch.tail.length ≤ m.ch.length; simp; done))
  rw [if_neg h3]
  by_cases h4 : x.op = 18
  · rw [if_pos h4]
    (first | exact Nat.le_refl _ | exact turnM_ch _ _ _ _ _ _ | exact loadM_ch _ _ _ _ | exact storeM_ch _ _ _ _ | exact winM_ch _ _ _ | (show m.ch.tail.length ≤ m.ch.length; simp; done))
  rw [if_neg h4]
  by_cases h5 : x.op = 19
  · rw [if_pos h5]
    (first | exact Nat.le_refl _ | exact turnM_ch _ _ _ _ _ _ | exact loadM_ch _ _ _ _ | exact storeM_ch _ _ _ _ | exact winM_ch _ _ _ | (show m.ch.tail.length ≤ m.ch.length; simp; done))
  rw [if_neg h5]
  by_cases h6 : x.op = 20
  · rw [if_pos h6]
    (first | exact Nat.le_refl _ | exact turnM_ch _ _ _ _ _ _ | exact loadM_ch _ _ _ _ | exact storeM_ch _ _ _ _ | exact winM_ch _ _ _ | (show m.ch.tail.length ≤ m.ch.length; simp; done))
  rw [if_neg h6]
  by_cases h7 : x.op = 21
  · rw [if_pos h7]
    (first | exact Nat.le_refl _ | exact turnM_ch _ _ _ _ _ _ | exact loadM_ch _ _ _ _ | exact storeM_ch _ _ _ _ | exact winM_ch _ _ _ | (show m.ch.tail.length ≤ m.ch.length; simp; done))
  rw [if_neg h7]
  by_cases h8 : x.op = 22
  · rw [if_pos h8]
    (first | exact Nat.le_refl _ | exact turnM_ch _ _ _ _ _ _ | exact loadM_ch _ _ _ _ | exact storeM_ch _ _ _ _ | exact winM_ch _ _ _ | (show m.ch.tail.length ≤ m.ch.length; simp; done))
  rw [if_neg h8]
  by_cases h9 : x.op = 23
  · rw [if_pos h9]
    (first | exact Nat.le_refl _ | exact turnM_ch _ _ _ _ _ _ | exact loadM_ch _ _ _ _ | exact storeM_ch _ _ _ _ | exact winM_ch _ _ _ | (show m.ch.tail.length ≤ m.ch.length; simp; done))
  rw [if_neg h9]
  by_cases h10 : x.op = 24
  · rw [if_pos h10]
    (first | exact Nat.le_refl _ | exact turnM_ch _ _ _ _ _ _ | exact loadM_ch _ _ _ _ | exact storeM_ch _ _ _ _ | exact winM_ch _ _ _ | (show m.ch.tail.length ≤ m.ch.length; simp; done))
  rw [if_neg h10]
  by_cases h11 : x.op = 25
  · rw [if_pos h11]
    (first | exact Nat.le_refl _ | exact turnM_ch _ _ _ _ _ _ | exact loadM_ch _ _ _ _ | exact storeM_ch _ _ _ _ | exact winM_ch _ _ _ | (show m.ch.tail.length ≤ m.ch.length; simp; done))
  rw [if_neg h11]
  by_cases h12 : x.op = 26
  · rw [if_pos h12]
    (first | exact Nat.le_refl _ | exact turnM_ch _ _ _ _ _ _ | exact loadM_ch _ _ _ _ | exact storeM_ch _ _ _ _ | exact winM_ch _ _ _ | (show m.ch.tail.length ≤ m.ch.length; simp; done))
  rw [if_neg h12]
  by_cases h13 : x.op = 27
  · rw [if_pos h13]
    split <;> (first | exact Nat.le_refl _ | exact turnM_ch _ _ _ _ _ _ | exact loadM_ch _ _ _ _ | exact storeM_ch _ _ _ _ | exact winM_ch _ _ _ | (show m.ch.tail.length ≤ m.ch.length; simp; done))
  rw [if_neg h13]
  by_cases h14 : x.op = 28
  · rw [if_pos h14]
    (first | exact Nat.le_refl _ | exact turnM_ch _ _ _ _ _ _ | exact loadM_ch _ _ _ _ | exact storeM_ch _ _ _ _ | exact winM_ch _ _ _ | (show m.ch.tail.length ≤ m.ch.length; simp; done))
  rw [if_neg h14]
  by_cases h15 : x.op = 29
  · rw [if_pos h15]
    split <;> (first | exact Nat.le_refl _ | exact turnM_ch _ _ _ _ _ _ | exact loadM_ch _ _ _ _ | exact storeM_ch _ _ _ _ | exact winM_ch _ _ _ | (show m.ch.tail.length ≤ m.ch.length; simp; done))
  rw [if_neg h15]
  by_cases h16 : x.op = 30
  · rw [if_pos h16]
    split
    · (first | exact Nat.le_refl _ | exact turnM_ch _ _ _ _ _ _ | exact loadM_ch _ _ _ _ | exact storeM_ch _ _ _ _ | exact winM_ch _ _ _ | (show m.ch.tail.length ≤ m.ch.length; simp; done))
    · first
      | (first | exact Nat.le_refl _ | exact turnM_ch _ _ _ _ _ _ | exact loadM_ch _ _ _ _ | exact storeM_ch _ _ _ _ | exact winM_ch _ _ _ | (show m.ch.tail.length ≤ m.ch.length; simp; done))
      | (split <;> (first | exact Nat.le_refl _ | exact turnM_ch _ _ _ _ _ _ | exact loadM_ch _ _ _ _ | exact storeM_ch _ _ _ _ | exact winM_ch _ _ _ | (show m.ch.tail.length ≤ m.ch.length; simp; done)))
  rw [if_neg h16]
  by_cases h17 : x.op = 31
  · rw [if_pos h17]
    split
    · (first | exact Nat.le_refl _ | exact turnM_ch _ _ _ _ _ _ | exact loadM_ch _ _ _ _ | exact storeM_ch _ _ _ _ | exact winM_ch _ _ _ | (show m.ch.tail.length ≤ m.ch.length; simp; done))
    · first
      | (first | exact Nat.le_refl _ | exact turnM_ch _ _ _ _ _ _ | exact loadM_ch _ _ _ _ | exact storeM_ch _ _ _ _ | exact winM_ch _ _ _ | (show m.ch.tail.length ≤ m.ch.length; simp; done))
      | (split <;> (first | exact Nat.le_refl _ | exact turnM_ch _ _ _ _ _ _ | exact loadM_ch _ _ _ _ | exact storeM_ch _ _ _ _ | exact winM_ch _ _ _ | (show m.ch.tail.length ≤ m.ch.length; simp; done)))
  rw [if_neg h17]
  by_cases h18 : x.op = 32
  · rw [if_pos h18]
    split
    · (first | exact Nat.le_refl _ | exact turnM_ch _ _ _ _ _ _ | exact loadM_ch _ _ _ _ | exact storeM_ch _ _ _ _ | exact winM_ch _ _ _ | (show m.ch.tail.length ≤ m.ch.length; simp; done))
    · split <;> (first | exact Nat.le_refl _ | exact turnM_ch _ _ _ _ _ _ | exact loadM_ch _ _ _ _ | exact storeM_ch _ _ _ _ | exact winM_ch _ _ _ | (show m.ch.tail.length ≤ m.ch.length; simp; done))
  rw [if_neg h18]
  by_cases h19 : x.op = 33
  · rw [if_pos h19]
    (first | exact Nat.le_refl _ | exact turnM_ch _ _ _ _ _ _ | exact loadM_ch _ _ _ _ | exact storeM_ch _ _ _ _ | exact winM_ch _ _ _ | (show m.ch.tail.length ≤ m.ch.length; simp; done))
  rw [if_neg h19]
  by_cases h20 : x.op = 34
  · rw [if_pos h20]
    (first | exact Nat.le_refl _ | exact turnM_ch _ _ _ _ _ _ | exact loadM_ch _ _ _ _ | exact storeM_ch _ _ _ _ | exact winM_ch _ _ _ | (show m.ch.tail.length ≤ m.ch.length; simp; done))
  rw [if_neg h20]
  by_cases h21 : x.op = 35
  · rw [if_pos h21]
    (first | exact Nat.le_refl _ | exact turnM_ch _ _ _ _ _ _ | exact loadM_ch _ _ _ _ | exact storeM_ch _ _ _ _ | exact winM_ch _ _ _ | (show m.ch.tail.length ≤ m.ch.length; simp; done))
  rw [if_neg h21]
  by_cases h22 : x.op = 36
  · rw [if_pos h22]
    (first | exact Nat.le_refl _ | exact turnM_ch _ _ _ _ _ _ | exact loadM_ch _ _ _ _ | exact storeM_ch _ _ _ _ | exact winM_ch _ _ _ | (show m.ch.tail.length ≤ m.ch.length; simp; done))
  rw [if_neg h22]
  (first | exact Nat.le_refl _ | exact turnM_ch _ _ _ _ _ _ | exact loadM_ch _ _ _ _ | exact storeM_ch _ _ _ _ | exact winM_ch _ _ _ | (show m.ch.tail.length ≤ m.ch.length; simp; done))
theorem stepM_ch (m : Mx) (level : Int) : (stepM m level).ch.length ≤ m.ch.length := by
  unfold stepM
  split
  · exact Nat.le_refl _
  · split
    · exact Nat.le_refl _
    · unfold runM
      split
      · exact Nat.le_refl _
      · exact opS_ch _ _ _ _
/-- A cell that is none of the machine's. -/
structure CBox (w : World) (G : MG) (b : Nat) (v : Value) : Prop where
  c : w.cell? ⟨b, 0, none⟩ = some v
  n : G.R b = .none
theorem CBox.lt {w : World} {G : MG} {b : Nat} {v : Value} (h : CBox w G b v) : b < w.heap.size := World.block_lt_of_cell? _ _ h.c
theorem CBox.keepb {w w' : World} {G : MG} {b : Nat} {v : Value} (h : CBox w G b v) (hb : Below w.heap.size w w') : CBox w' G b v := ⟨(hb.cell (p := ⟨b, 0, none⟩) h.lt).trans h.c, h.n⟩
theorem CBox.to {w w' : World} {G G' : MG} {b : Nat} {v : Value} (h : CBox w G b v) (hk : MKeeps w w' G G') : CBox w' G' b v :=
  ⟨(World.cell?_of_block (hk.1.block b h.lt (fun hC => hC h.n))).trans h.c, hk.2 b h.lt h.n⟩
end Go.Proofs.YtgdebchbdmogcaaGreatDoor
