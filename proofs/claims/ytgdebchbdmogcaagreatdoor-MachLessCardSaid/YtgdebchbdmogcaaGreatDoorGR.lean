/- Several texts in one: MachReturnsLaw, MachStandsLaw. -/
import Derived.Test.YtgdebchbdmogcaaGreatDoorGT
import Derived.Test.YtgdebchbdmogcaaGreatDoorGW
/- The plain law of muntinlaw06.MachReturns: an interrupt, and a RETT at once. No program in sight. -/
namespace Go.Proofs.YtgdebchbdmogcaaGreatDoor
open Go.RowKit
set_option linter.unusedVariables false
set_option linter.unusedSimpArgs false
def rettI : Ix := ⟨32, 0, 0, 0, false, 0⟩
/-- With the RETT at the vector. -/
def laidM (m : Mx) (level : Int) : Mx := { m with mem := storeV m.mem (512 + 16 * level) 4 (encS rettI) }
theorem ret_irq (m : Mx) (level : Int) (hk : m.kind = 0) (hl : level < 16 ∧ m.p.pil < level) : stepM (laidM m level) level = irqM (laidM m level) level := by
  unfold stepM
  rw [if_neg (by show ¬ m.kind ≠ 0; omega), if_pos (show level < 16 ∧ (laidM m level).p.pil < level from hl)]
def backM (m : Mx) (level : Int) : Mx := { stepM (laidM m level) level with p := m.p, pc := m.pc }
theorem ret_back (m : Mx) (hok : m.ok) (level : Int) (hk : m.kind = 0) (h0 : 0 ≤ level) (hl : level < 16 ∧ m.p.pil < level) (hs : spanE m.mem.length (512 + 16 * level) 1 4 = 0) : stepM (stepM (laidM m level) level) level = backM m level := by
  obtain ⟨n, rfl⟩ := Int.eq_ofNat_of_zero_le h0
  have hpil := hok.pb.2.1.1
  have hr := ret_irq m n hk hl
  obtain ⟨-, -, s3, s4⟩ := spanE_ok hs (by omega)
  have hpc : (stepM (laidM m n) n).pc = ((512 + 16 * n : Nat) : Int) := by
    rw [hr]; show (256 : Int) + 16 * (16 + (n : Int)) = _; omega
  have hmem : (stepM (laidM m n) n).mem = storeS m.mem (512 + 16 * n) 4 (wordS rettI) := by
    rw [hr]
    show storeV m.mem (512 + 16 * (n : Int)) 4 (encS rettI) = _
    rw [show (512 + 16 * (n : Int)) = ((512 + 16 * n : Nat) : Int) from by omega, storeV_word _ _ _ (by omega) (by omega)]
    rfl
  have hcode : CodeAt (stepM (laidM m n) n).mem (512 + 16 * n) rettI := by
    rw [hmem]; exact CodeAt.new (by omega) (by omega) (by unfold rettI Ix.bd; simp) (by decide)
  have hkk : (stepM (laidM m n) n).kind = 0 := by rw [hr]; exact hk
  have hno : ¬ ((n : Int) < 16 ∧ (stepM (laidM m n) n).p.pil < n) := by
    rw [hr]; show ¬ ((n : Int) < 16 ∧ (n : Int) < n); omega
  rw [step_code hkk hno hpc hcode]
  have hbank : (stepM (laidM m n) n).p.bank = (n : Int) := by rw [hr]; rfl
  have hn1 : ¬ ((n : Int) = 0) := by omega
  have hts : (stepM (laidM m n) n).tpsr.getD n 0 = packS m.p m.nw := by
    rw [hr]
    show (m.tpsr.set ((n : Int)).toNat (packS m.p m.nw)).getD n 0 = _
    have := hok.sl
    rw [Int.toNat_natCast, List.getD_eq_getElem?_getD, List.getElem?_set_self (by omega)]; rfl
  have htp : (stepM (laidM m n) n).tpc.getD n 0 = m.pc := by
    rw [hr]
    show (m.tpc.set ((n : Int)).toNat m.pc).getD n 0 = _
    have := hok.tl
    rw [Int.toNat_natCast, List.getD_eq_getElem?_getD, List.getElem?_set_self (by omega)]; rfl
  have hnw : (stepM (laidM m n) n).nw = m.nw := by rw [hr]; rfl
  have hwin : winP m.nw := ⟨by unfold Mx.nw; have := hok.f.nw2; omega, by unfold Mx.nw; have := hok.f.nw32; omega⟩
  have hpk : packS m.p m.nw = packW m.p := if_pos ⟨hwin, hok.pm⟩
  have hun : unW (packW m.p) = m.p := un_pack hok.pb hwin hok.pm
  have hpb := pack_bd hok.pb hwin hok.pm
  have huok : unOk (packW m.p) m.nw := ⟨hpb.2, by rw [hun]; exact hok.pm⟩
  have e1 : opS (stepM (laidM m n) n) rettI (getM (stepM (laidM m n) n) rettI.rs1) (sndM (stepM (laidM m n) n) rettI) = if (stepM (laidM m n) n).p.bank = 0 then haltM (stepM (laidM m n) n) 3 0 else if unE ((stepM (laidM m n) n).tpsr.getD (stepM (laidM m n) n).p.bank.toNat 0) (stepM (laidM m n) n).nw = 0 then { stepM (laidM m n) n with p := unS ((stepM (laidM m n) n).tpsr.getD (stepM (laidM m n) n).p.bank.toNat 0) (stepM (laidM m n) n).nw, pc := (stepM (laidM m n) n).tpc.getD (stepM (laidM m n) n).p.bank.toNat 0 } else haltM (stepM (laidM m n) n) 3 0 := rfl
  rw [e1, hbank, if_neg hn1, Int.toNat_natCast, hts, htp, hnw, hpk]
  have hE : unE (packW m.p) m.nw = 0 := by unfold unE; rw [if_pos hwin, if_pos huok]
  have hS : unS (packW m.p) m.nw = m.p := by unfold unS; rw [if_pos ⟨hwin, huok⟩, hun]
  rw [if_pos hE, hS]
  rfl
theorem ret_first (m : Mx) (level : Int) (hk : m.kind = 0) (hl : level < 16 ∧ m.p.pil < level) : (stepM (laidM m level) level).kind = 0 ∧ (stepM (laidM m level) level).p.bank = level ∧ (stepM (laidM m level) level).p.pil = level ∧ (stepM (laidM m level) level).p.cwp = m.p.cwp ∧ (stepM (laidM m level) level).p.flags = m.p.flags ∧ (stepM (laidM m level) level).pc = 512 + 16 * level ∧ (stepM (laidM m level) level).out = m.out := by
  rw [ret_irq m level hk hl]
  refine ⟨hk, rfl, rfl, rfl, rfl, ?_, rfl⟩
  show (256 : Int) + 16 * (16 + level) = _; omega
theorem ret_last (m : Mx) (level : Int) (hk : m.kind = 0) (hl : level < 16 ∧ m.p.pil < level) : (backM m level).kind = 0 ∧ (backM m level).p = (laidM m level).p ∧ (backM m level).pc = (laidM m level).pc ∧ (backM m level).wim = (laidM m level).wim ∧ (backM m level).f = (laidM m level).f ∧ (backM m level).mem = (laidM m level).mem ∧ (backM m level).out = m.out := by
  unfold backM
  rw [ret_irq m level hk hl]
  exact ⟨hk, rfl, rfl, rfl, rfl, rfl, rfl⟩
/-- What a start's machine has from the beginning. -/
theorem made_run (x : StartX) : (madeM x).kind = 0 ∧ (madeM x).out = [] := by
  have h4 : (made4 x).kind = 0 ∧ (made4 x).out = [] := by
    unfold made4 swimM spsrM
    split <;> split <;> exact ⟨rfl, rfl⟩
  exact h4
theorem made_nw (x : StartX) (h : mayP6 x) : (madeM x).f.nw = x.nw.toNat := by
  have h4 : (made4 x).f.nw = x.nw.toNat := by
    unfold made4 swimM spsrM
    split <;> split <;> rfl
  show (regsF (made4 x).f x.regs x.regs.length).nw = _
  rw [regsF_nw, h4]
theorem made_mlen (x : StartX) (h : mayP6 x) : (madeM x).mem.length = x.size.toNat := by
  have h4 : (made4 x).mem.length = x.size.toNat := by
    have : (made4 x).mem = putV (newM x.nw.toNat x.size.toNat).mem 0 x.words := by
      unfold made4 swimM spsrM
      split <;> split <;> rfl
    rw [this, putV_len]
    show (List.replicate x.size.toNat (0 : Int)).length = _
    simp
  exact h4
theorem made_ch (x : StartX) : (madeM x).ch = x.ch := rfl
end Go.Proofs.YtgdebchbdmogcaaGreatDoor
/- The plain law of muntinlaw06.MachStands: what stands still; how much a step puts out. No program in sight. -/
namespace Go.Proofs.YtgdebchbdmogcaaGreatDoor
open Go.RowKit
set_option linter.unusedVariables false
set_option linter.unusedSimpArgs false
theorem turnM_out (m : Mx) (rd a b to kind : Int) : (turnM m rd a b to kind).out = m.out := by
  unfold turnM winM; split
  · split <;> rfl
  · rfl
theorem loadM_out (m : Mx) (rd at' many : Int) : (loadM m rd at' many).out = m.out := by unfold loadM; split <;> rfl
theorem storeM_out (m : Mx) (rd at' many : Int) : (storeM m rd at' many).out = m.out := by unfold storeM; split <;> rfl
theorem winM_out (m : Mx) (kind pc : Int) : (winM m kind pc).out = m.out := by unfold winM; split <;> rfl
theorem opS_out (m : Mx) (x : Ix) (a b : Int) : (opS m x a b).out = m.out ∨ (opS m x a b).out = m.out ++ [a] := by
  unfold opS
  by_cases h0 : x.op ≤ 14
  · rw [if_pos h0]
    split <;> exact .inl rfl
  rw [if_neg h0]
  by_cases h1 : x.op = 15
  · rw [if_pos h1]
    exact .inl rfl
  rw [if_neg h1]
  by_cases h2 : x.op = 16
  · rw [if_pos h2]
    exact .inl rfl
  rw [if_neg h2]
  by_cases h3 : x.op = 17
  · rw [if_pos h3]
    split <;> exact .inl rfl
  rw [if_neg h3]
  by_cases h4 : x.op = 18
  · rw [if_pos h4]
    exact .inl rfl
  rw [if_neg h4]
  by_cases h5 : x.op = 19
  · rw [if_pos h5]
    exact .inl rfl
  rw [if_neg h5]
  by_cases h6 : x.op = 20
  · rw [if_pos h6]
    exact .inl (turnM_out _ _ _ _ _ _)
  rw [if_neg h6]
  by_cases h7 : x.op = 21
  · rw [if_pos h7]
    exact .inl (turnM_out _ _ _ _ _ _)
  rw [if_neg h7]
  by_cases h8 : x.op = 22
  · rw [if_pos h8]
    exact .inl (loadM_out _ _ _ _)
  rw [if_neg h8]
  by_cases h9 : x.op = 23
  · rw [if_pos h9]
    exact .inl (storeM_out _ _ _ _)
  rw [if_neg h9]
  by_cases h10 : x.op = 24
  · rw [if_pos h10]
    exact .inl (loadM_out _ _ _ _)
  rw [if_neg h10]
  by_cases h11 : x.op = 25
  · rw [if_pos h11]
    exact .inl (storeM_out _ _ _ _)
  rw [if_neg h11]
  by_cases h12 : x.op = 26
  · rw [if_pos h12]
    exact .inl rfl
  rw [if_neg h12]
  by_cases h13 : x.op = 27
  · rw [if_pos h13]
    split <;> exact .inl rfl
  rw [if_neg h13]
  by_cases h14 : x.op = 28
  · rw [if_pos h14]
    exact .inl rfl
  rw [if_neg h14]
  by_cases h15 : x.op = 29
  · rw [if_pos h15]
    split <;> exact .inl rfl
  rw [if_neg h15]
  by_cases h16 : x.op = 30
  · rw [if_pos h16]
    split <;> exact .inl rfl
  rw [if_neg h16]
  by_cases h17 : x.op = 31
  · rw [if_pos h17]
    split
    · exact .inl rfl
    · split <;> exact .inl rfl
  rw [if_neg h17]
  by_cases h18 : x.op = 32
  · rw [if_pos h18]
    split
    · exact .inl rfl
    · split <;> exact .inl rfl
  rw [if_neg h18]
  by_cases h19 : x.op = 33
  · rw [if_pos h19]
    exact .inl (winM_out _ _ _)
  rw [if_neg h19]
  by_cases h20 : x.op = 34
  · rw [if_pos h20]
    exact .inl rfl
  rw [if_neg h20]
  by_cases h21 : x.op = 35
  · rw [if_pos h21]
    exact .inr rfl
  rw [if_neg h21]
  by_cases h22 : x.op = 36
  · rw [if_pos h22]
    exact .inl rfl
  rw [if_neg h22]
  exact .inl rfl
theorem stepM_out (m : Mx) (level : Int) : (stepM m level).out = m.out ∨ ∃ a, (stepM m level).out = m.out ++ [a] := by
  unfold stepM
  split
  · exact .inl rfl
  · split
    · exact .inl rfl
    · unfold runM
      split
      · exact .inl rfl
      · rcases opS_out m (atM m) (getM m (atM m).rs1) (sndM m (atM m)) with h | h
        · exact .inl h
        · exact .inr ⟨_, h⟩
theorem stepM_outlen (m : Mx) (level : Int) : (stepM m level).out.length ≤ m.out.length + 1 := by
  rcases stepM_out m level with h | ⟨a, h⟩
  · rw [h]; omega
  · rw [h]; simp
theorem stands (m : Mx) (level : Int) (h : m.kind ≠ 0) : stepM m level = m := by unfold stepM; rw [if_pos h]
/-- So many steps. -/
def runL (m : Mx) (l : List Int) : Nat → Mx
  | 0 => m
  | k + 1 => stepM (runL m l k) (l.getD k 0)
theorem runL_out (m : Mx) (l : List Int) (k : Nat) : (runL m l k).out.length ≤ m.out.length + k := by
  induction k with
  | zero => exact Nat.le_refl _
  | succ k ih => have := stepM_outlen (runL m l k) (l.getD k 0); show (stepM _ _).out.length ≤ _; omega
end Go.Proofs.YtgdebchbdmogcaaGreatDoor
