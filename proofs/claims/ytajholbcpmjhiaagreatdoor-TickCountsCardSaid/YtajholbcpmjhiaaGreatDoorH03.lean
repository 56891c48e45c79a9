/- Several texts in one: PsrWin, MachSpec, MachOk, MemKeepsLaw, MemMake, MemPut. -/
import Derived.Test.YtajholbcpmjhiaaGreatDoorH02
import Derived.Test.YtajholbcpmjhiaaGreatDoorH01
import Derived.StillTailTactics
set_option linter.unusedVariables false
set_option linter.unusedSimpArgs false
/- Windows: what is beside one, its WIM, which is invalid. -/
namespace Go.Proofs.YtajholbcpmjhiaaGreatDoor
open Go.RowKit
def okW (x nw : Int) : Prop := winP nw ∧ 0 ≤ x ∧ x < nw
instance (x nw : Int) : Decidable (okW x nw) := by unfold okW; infer_instance
def stepV (x by' nw : Int) : Int := if okW x nw then (x + by') % nw else 0
def okE (x nw : Int) : Int := if okW x nw then 0 else 2
def invO (wim nw : Int) : Option Nat := (List.range nw.toNat).find? fun k => decide (wim = 2 ^ k)
def invV (wim nw : Int) : Int := if winP nw then (match invO wim nw with | some k => (k : Int) | none => 0) else 0
def invE (wim nw : Int) : Int := if winP nw then (match invO wim nw with | some _ => 0 | none => 5) else 2
theorem pow_inj {a b : Nat} (h : (2 : Int) ^ a = 2 ^ b) : a = b := by
  have h2 : (2 : Nat) ^ a = 2 ^ b := by exact_mod_cast h
  rcases Nat.lt_trichotomy a b with hl | hl | hl
  · have := Nat.pow_lt_pow_right (a := 2) (by omega) hl; omega
  · exact hl
  · have := Nat.pow_lt_pow_right (a := 2) (by omega) hl; omega
theorem inv_some {wim nw : Int} {k : Nat} (h : wim = 2 ^ k) (hk : (k : Int) < nw) : invO wim nw = some k := by
  unfold invO
  rw [List.find?_eq_some_iff_append]
  refine ⟨by simpa using h, List.range k, (List.range (nw.toNat - (k + 1))).map (· + (k + 1)), ?_, ?_⟩
  · have e : nw.toNat = (k + 1) + (nw.toNat - (k + 1)) := by omega
    rw [e, List.range_add, List.range_succ]
    simp [Nat.add_comm]
  · intro a ha
    simp only [List.mem_range] at ha
    simp only [Bool.not_eq_true', decide_eq_false_iff_not]
    intro e
    have := pow_inj (h.symm.trans e)
    omega
theorem inv_none {wim nw : Int} (h : ∀ k : Nat, (k : Int) < nw → wim ≠ 2 ^ k) : invO wim nw = none := by
  unfold invO
  rw [List.find?_eq_none]
  intro k hk
  simp only [List.mem_range] at hk
  simpa using h k (by omega)
set_option maxHeartbeats 1000000 in
theorem step_any (x by' nw : Int) (hby : winP nw → 0 ≤ by' ∧ by' ≤ 32) (w : World) : Calls Tryz.prog 213 #[.int .i64 x, .int .i64 by', .int .i64 nw] w fun e w' => e = .returned (.tuple #[.int .i64 (stepV x by' nw), .int .i64 (okE x nw)]) ∧ Below w.heap.size w w' := by
  have hq := windows_any nw
  by_cases hw : winP nw
  · rw [decide_eq_true hw] at hq
    have H1 := phid hq
    have hbl := fun W => below_any [x, nw] 1 w.heap.size (by omega) rfl W
    rw [below2_eq] at hbl
    have hb2 := hby hw
    obtain ⟨hw1, hw2⟩ := hw
    by_cases hx : 0 ≤ x ∧ x < nw
    · rw [decide_eq_true hx] at hbl
      have HB := phid hbl
      have hok : okW x nw := ⟨⟨hw1, hw2⟩, hx⟩
      have E := phid (show stepV x by' nw = (x + by') % nw ∧ okE x nw = 0 from ⟨if_pos hok, if_pos hok⟩)
      have hs : 0 ≤ x + by' ∧ x + by' ≤ 64 := by omega
      clear hbl hby hq hok
      go_enter Tryz.func213, Tryz.ntmps213
      go_wp2_with fail
      refine (H1.out _).mono ?_
      rintro e w' ⟨rfl, rfl⟩
      go_wp2_with fail
      refine (HB.out _ ?_).mono ?_
      · intro k hk
        have : k = 0 ∨ k = 1 := by simp at hk; omega
        rcases this with rfl | rfl <;> simp [go_sem]
      rintro e w' ⟨rfl, hB⟩
      have HBB := phid hB
      clear hB
      go_wp2_with fail
      go_ret2
      exact ⟨pret2 E.out.1.symm E.out.2.symm, pbt (pbal _ _) HBB.out⟩
    · rw [decide_eq_false hx] at hbl
      have HB := phid hbl
      have hok : ¬ okW x nw := fun h => hx h.2
      have E := phid (show stepV x by' nw = 0 ∧ okE x nw = 2 from ⟨if_neg hok, if_neg hok⟩)
      clear hbl hby hq hok hx
      go_enter Tryz.func213, Tryz.ntmps213
      go_wp2_with fail
      refine (H1.out _).mono ?_
      rintro e w' ⟨rfl, rfl⟩
      go_wp2_with fail
      refine (HB.out _ ?_).mono ?_
      · intro k hk
        have : k = 0 ∨ k = 1 := by simp at hk; omega
        rcases this with rfl | rfl <;> simp [go_sem]
      rintro e w' ⟨rfl, hB⟩
      have HBB := phid hB
      clear hB
      go_wp2_with fail
      go_ret2
      exact ⟨pret2 E.out.1.symm E.out.2.symm, pbt (pbal _ _) HBB.out⟩
  · rw [decide_eq_false hw] at hq
    have H1 := phid hq
    have hok : ¬ okW x nw := fun h => hw h.1
    have E := phid (show stepV x by' nw = 0 ∧ okE x nw = 2 from ⟨if_neg hok, if_neg hok⟩)
    clear hby hq hok hw
    go_enter Tryz.func213, Tryz.ntmps213
    go_wp2_with fail
    refine (H1.out _).mono ?_
    rintro e w' ⟨rfl, rfl⟩
    go_wp2_with fail
    go_ret2
    exact ⟨pret2 E.out.1.symm E.out.2.symm, Below.refl _ _⟩
theorem pnext_any (x nw : Int) (w : World) : Calls Tryz.prog 199 #[.int .i64 x, .int .i64 nw] w fun e w' => e = .returned (.tuple #[.int .i64 (stepV x 1 nw), .int .i64 (okE x nw)]) ∧ Below w.heap.size w w' := by
  have H := phid (step_any x 1 nw (fun _ => by omega))
  go_enter Tryz.func199, Tryz.ntmps199
  go_wp2_with fail
  refine (H.out _).mono ?_
  rintro e w' ⟨rfl, hB⟩
  have HB := phid hB
  clear hB
  go_wp2_with fail
  go_ret2
  exact ⟨rfl, HB.out⟩
theorem ahead_any (x nw : Int) (w : World) : Calls Tryz.prog 197 #[.int .i64 x, .int .i64 nw] w fun e w' => e = .returned (.tuple #[.int .i64 (stepV x (nw - 1) nw), .int .i64 (okE x nw)]) ∧ Below w.heap.size w w' := by
  have hin : winP nw → wrap64 (nw - 1) = nw - 1 := fun h => by have h1 := h.1; have h2 := h.2; rw [IntWalk.wrap64_in _ (by omega)]
  have hs := step_any x (wrap64 (nw - 1)) nw (fun h => by have h1 := h.1; have h2 := h.2; rw [hin h]; omega)
  have he : stepV x (wrap64 (nw - 1)) nw = stepV x (nw - 1) nw := by
    unfold stepV
    by_cases h : okW x nw
    · rw [if_pos h, if_pos h, hin h.1]
    · rw [if_neg h, if_neg h]
  rw [he] at hs
  have H := phid hs
  clear hs he hin
  go_enter Tryz.func197, Tryz.ntmps197
  go_wp2_with fail
  refine (H.out _).mono ?_
  rintro e w' ⟨rfl, hB⟩
  have HB := phid hB
  clear hB
  go_wp2_with fail
  go_ret2
  exact ⟨rfl, HB.out⟩
set_option maxHeartbeats 1000000 in
theorem invalid_any (wim nw : Int) (h0 : 0 ≤ wim) (h1 : wim < 4294967296) (w : World) (hb : Bru w) : Calls Tryz.prog 125 #[.int .u32 wim, .int .i64 nw] w fun e w' => e = .returned (.tuple #[.int .i64 (invV wim nw), .int .i64 (invE wim nw)]) ∧ Below w.heap.size w w' := by
  have hq := windows_any nw
  have BR := phid hb
  clear hb
  by_cases hw : winP nw
  · rw [decide_eq_true hw] at hq
    have H1 := phid hq
    have ho := ones_any wim h0 h1
    obtain ⟨hw1, hw2⟩ := hw
    by_cases hp : ∃ k : Nat, k < 32 ∧ wim = 2 ^ k
    · obtain ⟨k, hk, rfl⟩ := hp
      rw [show onesS (2 ^ k) = 1 from ones_pow ⟨k, hk⟩] at ho
      have HO := phid ho
      have HT := phid (tz_any k hk)
      clear hq ho
      by_cases hkn : (k : Int) < nw
      · have hi := inv_some (wim := 2 ^ k) (nw := nw) rfl hkn
        have E := phid (show invV (2 ^ k) nw = k ∧ invE (2 ^ k) nw = 0 from ⟨by unfold invV; rw [if_pos ⟨hw1, hw2⟩, hi], by unfold invE; rw [if_pos ⟨hw1, hw2⟩, hi]⟩)
        have hd : decide (nw ≤ (k : Int)) = false := by simp; omega
        clear hi
        generalize (2 : Int) ^ k = p at *
        go_enter Tryz.func125, Tryz.ntmps125
        go_wp2_with fail
        refine (H1.out _).mono ?_
        rintro e w' ⟨rfl, rfl⟩
        go_wp2_with fail
        refine (HO.out _).mono ?_
        rintro e w1 ⟨rfl, hB⟩
        have HB := phid hB
        clear hB
        go_wp2_with fail
        refine (HT.out _ (BR.out.keep HB.out)).mono ?_
        rintro e w' ⟨rfl, rfl⟩
        go_wp2_with fail
        refine (HT.out _ (BR.out.keep HB.out)).mono ?_
        rintro e w' ⟨rfl, rfl⟩
        go_wp2_with fail
        go_ret2
        exact ⟨pret2 E.out.1.symm E.out.2.symm, HB.out⟩
      · have hi : invO (2 ^ k) nw = none := inv_none (fun j hj e => by have := pow_inj e; omega)
        have E := phid (show invV (2 ^ k) nw = 0 ∧ invE (2 ^ k) nw = 5 from ⟨by unfold invV; rw [if_pos ⟨hw1, hw2⟩, hi], by unfold invE; rw [if_pos ⟨hw1, hw2⟩, hi]⟩)
        have hd : decide (nw ≤ (k : Int)) = true := by simp; omega
        clear hi hkn
        generalize (2 : Int) ^ k = p at *
        go_enter Tryz.func125, Tryz.ntmps125
        go_wp2_with fail
        refine (H1.out _).mono ?_
        rintro e w' ⟨rfl, rfl⟩
        go_wp2_with fail
        refine (HO.out _).mono ?_
        rintro e w1 ⟨rfl, hB⟩
        have HB := phid hB
        clear hB
        go_wp2_with fail
        refine (HT.out _ (BR.out.keep HB.out)).mono ?_
        rintro e w' ⟨rfl, rfl⟩
        go_wp2_with fail
        go_ret2
        exact ⟨pret2 E.out.1.symm E.out.2.symm, HB.out⟩
    · have hne : (onesS wim != 1) = true := by
        have : onesS wim ≠ 1 := fun e => hp (ones_one h0 h1 e)
        simpa using this
      have hi : invO wim nw = none := inv_none (fun j hj e => hp ⟨j, by omega, e⟩)
      have E := phid (show invV wim nw = 0 ∧ invE wim nw = 5 from ⟨by unfold invV; rw [if_pos ⟨hw1, hw2⟩, hi], by unfold invE; rw [if_pos ⟨hw1, hw2⟩, hi]⟩)
      have HO := phid ho
      clear hq ho hi hp
      generalize onesS wim = o at *
      go_enter Tryz.func125, Tryz.ntmps125
      go_wp2_with fail
      refine (H1.out _).mono ?_
      rintro e w' ⟨rfl, rfl⟩
      go_wp2_with fail
      refine (HO.out _).mono ?_
      rintro e w1 ⟨rfl, hB⟩
      have HB := phid hB
      clear hB
      go_wp2_with fail
      go_ret2
      exact ⟨pret2 E.out.1.symm E.out.2.symm, HB.out⟩
  · rw [decide_eq_false hw] at hq
    have H1 := phid hq
    have E := phid (show invV wim nw = 0 ∧ invE wim nw = 2 from ⟨if_neg hw, if_neg hw⟩)
    clear hq hw
    go_enter Tryz.func125, Tryz.ntmps125
    go_wp2_with fail
    refine (H1.out _).mono ?_
    rintro e w' ⟨rfl, rfl⟩
    go_wp2_with fail
    go_ret2
    exact ⟨pret2 E.out.1.symm E.out.2.symm, Below.refl _ _⟩
end Go.Proofs.YtajholbcpmjhiaaGreatDoor
/- Plain law of the machine: its registers, what a step makes of it. No program in sight. -/
namespace Go.Proofs.YtajholbcpmjhiaaGreatDoor
open Go.RowKit
structure Fx where
  nw : Nat
  win : List Int
  glo : List Int
structure Fx.ok (f : Fx) : Prop where
  nw2 : 2 ≤ f.nw
  nw32 : f.nw ≤ 32
  wl : f.win.length = 16 * f.nw
  gl : f.glo.length = 136
  ww : Words f.win
  gw : Words f.glo
def getF (f : Fx) (w b r : Nat) : Int :=
  if r = 0 then 0 else if r < 8 then f.glo.getD (b * 8 + r) 0 else if r < 16 then f.win.getD (16 * ((w + f.nw - 1) % f.nw) + r) 0 else f.win.getD (16 * w + (r - 16)) 0
def setF (f : Fx) (w b r : Nat) (x : Int) : Fx :=
  if r = 0 then f else if r < 8 then { f with glo := f.glo.set (b * 8 + r) x } else if r < 16 then { f with win := f.win.set (16 * ((w + f.nw - 1) % f.nw) + r) x } else { f with win := f.win.set (16 * w + (r - 16)) x }
def regOk (f : Fx) (w b r : Int) : Prop := (0 ≤ w ∧ w < f.nw) ∧ (0 ≤ b ∧ b < 17) ∧ 0 ≤ r ∧ r < 32
instance (f : Fx) (w b r : Int) : Decidable (regOk f w b r) := by unfold regOk; infer_instance
def regE (f : Fx) (w b r : Int) : Int := if regOk f w b r then 0 else 2
def getV (f : Fx) (w b r : Int) : Int := if regOk f w b r then getF f w.toNat b.toNat r.toNat else 0
def setV (f : Fx) (w b r x : Int) : Fx := if regOk f w b r then setF f w.toNat b.toNat r.toNat x else f
def Fx.new (nw : Nat) : Fx := ⟨nw, List.replicate (16 * nw) 0, List.replicate 136 0⟩
theorem setF_nw (f : Fx) (w b r : Nat) (x : Int) : (setF f w b r x).nw = f.nw := by unfold setF; split; rfl; split; rfl; split <;> rfl
theorem Words.set {l : List Int} (h : Words l) (i : Nat) {x : Int} (hx : 0 ≤ x ∧ x < 4294967296) : Words (l.set i x) := by
  intro y hy
  rcases List.mem_or_eq_of_mem_set hy with h1 | h1
  · exact h y h1
  · exact h1 ▸ hx
theorem Words.zeros (n : Nat) : Words (List.replicate n 0) := by
  intro x hx; rw [List.eq_of_mem_replicate hx]; omega
theorem Fx.ok.sF {f : Fx} (h : f.ok) (w b r : Nat) {x : Int} (hx : 0 ≤ x ∧ x < 4294967296) : (setF f w b r x).ok := by
  obtain ⟨a, b1, c, d, e, g⟩ := h
  unfold setF
  split
  · exact ⟨a, b1, c, d, e, g⟩
  split
  · exact ⟨a, b1, c, by simpa using d, e, g.set _ hx⟩
  split
  · exact ⟨a, b1, by simpa using c, d, e.set _ hx, g⟩
  · exact ⟨a, b1, by simpa using c, d, e.set _ hx, g⟩
theorem Fx.ok.gF {f : Fx} (h : f.ok) (w b r : Nat) : 0 ≤ getF f w b r ∧ getF f w b r < 4294967296 := by
  unfold getF
  split
  · omega
  split
  · exact h.gw.at _
  split
  · exact h.ww.at _
  · exact h.ww.at _
theorem Fx.ok.new {nw : Nat} (h2 : 2 ≤ nw) (h32 : nw ≤ 32) : (Fx.new nw).ok := ⟨h2, h32, by simp [Fx.new], by simp [Fx.new], Words.zeros _, Words.zeros _⟩
structure Mx where
  f : Fx
  mem : List Int
  pc : Int
  wim : Int
  p : Px
  tpc : List Int
  tpsr : List Int
  ch : List Int
  out : List Int
  kind : Int
  v : Int
def Mx.nw (m : Mx) : Int := (m.f.nw : Int)
structure Mx.ok (m : Mx) : Prop where
  f : m.f.ok
  bytes : Bytes m.mem
  mlen : m.mem.length ≤ 4194304
  pc0 : 0 ≤ m.pc
  pc1 : m.pc < 4294967296
  wim0 : 0 ≤ m.wim
  wim1 : m.wim < 4294967296
  pb : m.p.bd
  pm : pmayP m.p m.nw
  tl : m.tpc.length = 17
  tw : Words m.tpc
  sl : m.tpsr.length = 17
  sw : Words m.tpsr
  cw : Words m.ch
  ow : Words m.out
  k0 : 0 ≤ m.kind
  k1 : m.kind < 256
  v0 : 0 ≤ m.v
  v1 : m.v < 4294967296
def getM (m : Mx) (r : Int) : Int := getF m.f m.p.cwp.toNat m.p.bank.toNat r.toNat
def setM (m : Mx) (r x : Int) : Mx := { m with f := setF m.f m.p.cwp.toNat m.p.bank.toNat r.toNat x }
def haltM (m : Mx) (kind v : Int) : Mx := { m with kind := kind, v := v }
def trapM (m : Mx) (bank kind pc : Int) : Mx :=
  { m with tpc := m.tpc.set bank.toNat pc, tpsr := m.tpsr.set bank.toNat (packS m.p m.nw), p := { m.p with bank := bank }, pc := 256 + 16 * kind }
def winM (m : Mx) (kind pc : Int) : Mx := if m.p.bank = 0 then trapM m 16 kind pc else haltM m 3 0
def onM (m : Mx) : Mx := { m with pc := u32 (m.pc + 4) }
def turnM (m : Mx) (rd a b to kind : Int) : Mx :=
  if to = invV m.wim m.nw then winM m kind m.pc else onM (setM { m with p := { m.p with cwp := to } } rd (u32 (a + b)))
def loadM (m : Mx) (rd at' many : Int) : Mx := if spanE m.mem.length at' 1 many = 0 then onM (setM m rd (loadV m.mem at' many)) else haltM m 3 0
def storeM (m : Mx) (rd at' many : Int) : Mx := if spanE m.mem.length at' 1 many = 0 then onM { m with mem := storeV m.mem at' many (getM m rd) } else haltM m 3 0
def opS (m : Mx) (x : Ix) (a b : Int) : Mx :=
  if x.op ≤ 14 then (if doB (x.op - 1).toNat b = true then onM (setM m x.rd (doW (x.op - 1).toNat a b)) else haltM m 2 1)
  else if x.op = 15 then onM (setM m x.rd (u32 (b * 2048)))
  else if x.op = 16 then onM { m with p := { m.p with flags := flagsS a b } }
  else if x.op = 17 then (if holdsS x.rd.toNat m.p.flags = true then { m with pc := u32 (m.pc + 4 * b) } else onM m)
  else if x.op = 18 then { setM m 15 m.pc with pc := u32 (m.pc + 4 * b) }
  else if x.op = 19 then { setM m x.rd m.pc with pc := u32 (a + b) }
  else if x.op = 20 then turnM m x.rd a b (stepV m.p.cwp (m.nw - 1) m.nw) 1
  else if x.op = 21 then turnM m x.rd a b (stepV m.p.cwp 1 m.nw) 2
  else if x.op = 22 then loadM m x.rd (u32 (a + b)) 4
  else if x.op = 23 then storeM m x.rd (u32 (a + b)) 4
  else if x.op = 24 then loadM m x.rd (u32 (a + b)) 1
  else if x.op = 25 then storeM m x.rd (u32 (a + b)) 1
  else if x.op = 26 then onM (setM m x.rd (packS m.p m.nw))
  else if x.op = 27 then (if unE (u32 (a + b)) m.nw = 0 then onM { m with p := unS (u32 (a + b)) m.nw } else haltM m 3 0)
  else if x.op = 28 then onM (setM m x.rd m.wim)
  else if x.op = 29 then (if invE (u32 (a + b)) m.nw = 0 then onM { m with wim := u32 (a + b) } else haltM m 3 0)
  else if x.op = 30 then (if m.p.bank = 0 then haltM m 3 0 else onM (setM m x.rd (if x.imm = 1 then m.tpsr.getD m.p.bank.toNat 0 else m.tpc.getD m.p.bank.toNat 0)))
  else if x.op = 31 then (if m.p.bank = 0 then haltM m 3 0 else onM (if x.imm = 1 then { m with tpsr := m.tpsr.set m.p.bank.toNat a } else { m with tpc := m.tpc.set m.p.bank.toNat a }))
  else if x.op = 32 then (if m.p.bank = 0 then haltM m 3 0 else if unE (m.tpsr.getD m.p.bank.toNat 0) m.nw = 0 then { m with p := unS (m.tpsr.getD m.p.bank.toNat 0) m.nw, pc := m.tpc.getD m.p.bank.toNat 0 } else haltM m 3 0)
  else if x.op = 33 then winM m x.imm (u32 (m.pc + 4))
  else if x.op = 34 then onM (setM { m with ch := m.ch.tail } x.rd (m.ch.headD 0))
  else if x.op = 35 then onM { m with out := m.out ++ [a] }
  else if x.op = 36 then haltM m 1 a
  else haltM m 2 b
def irqM (m : Mx) (level : Int) : Mx := { trapM m level (16 + level) m.pc with p := { m.p with bank := level, pil := level } }
def sndM (m : Mx) (x : Ix) : Int := if x.is = true then u32 x.imm else getM m x.rs2
def noneAt (m : Mx) : Prop := spanE m.mem.length m.pc 1 4 ≠ 0 ∨ decB (loadV m.mem m.pc 4) = false
instance (m : Mx) : Decidable (noneAt m) := by unfold noneAt; infer_instance
def atM (m : Mx) : Ix := decS (loadV m.mem m.pc 4)
def runM (m : Mx) : Mx := if noneAt m then haltM m 3 0 else opS m (atM m) (getM m (atM m).rs1) (sndM m (atM m))
def stepM (m : Mx) (level : Int) : Mx :=
  if m.kind ≠ 0 then m else if level < 16 ∧ m.p.pil < level then irqM m level else runM m
end Go.Proofs.YtajholbcpmjhiaaGreatDoor
/- A step keeps what a machine is. No program in sight. -/
namespace Go.Proofs.YtajholbcpmjhiaaGreatDoor
open Go.RowKit
theorem win_of {f : Fx} (h : f.ok) : winP (f.nw : Int) := ⟨by have := h.nw2; omega, by have := h.nw32; omega⟩
theorem Mx.ok.win {m : Mx} (h : m.ok) : winP m.nw := win_of h.f
theorem Mx.ok.cwp {m : Mx} (h : m.ok) : 0 ≤ m.p.cwp ∧ m.p.cwp < m.nw := ⟨h.pb.1.1, h.pm.1⟩
theorem Mx.ok.bank {m : Mx} (h : m.ok) : 0 ≤ m.p.bank ∧ m.p.bank < 17 := ⟨h.pb.2.2.1.1, h.pm.2.2.1⟩
theorem packS_bd {p : Px} {nw : Int} (hb : p.bd) : 0 ≤ packS p nw ∧ packS p nw < 4294967296 := by
  unfold packS
  split
  · rename_i h; have := pack_bd hb h.1 h.2; omega
  · omega
theorem unS_ok {w nw : Int} (h0 : 0 ≤ w) (h : unE w nw = 0) : (unS w nw).bd ∧ pmayP (unS w nw) nw := by
  unfold unE at h
  by_cases hw : winP nw
  · rw [if_pos hw] at h
    by_cases ho : unOk w nw
    · unfold unS
      rw [if_pos ⟨hw, ho⟩]
      exact ⟨un_bd h0, ho.2⟩
    · rw [if_neg ho] at h; omega
  · rw [if_neg hw] at h; omega
theorem stepV_bd {x by' nw : Int} (hn : 0 < nw) : 0 ≤ stepV x by' nw ∧ stepV x by' nw < nw := by
  unfold stepV
  split
  · exact ⟨Int.emod_nonneg _ (by omega), Int.emod_lt_of_pos _ hn⟩
  · omega
theorem loadV_bd {d : List Int} (h : Bytes d) (a many : Int) : 0 ≤ loadV d a many ∧ loadV d a many < 4294967296 := by
  unfold loadV
  split
  · have := loadS_bd h a.toNat many.toNat; omega
  · omega
theorem storeV_ok {d : List Int} (h : Bytes d) (a many x : Int) : Bytes (storeV d a many x) ∧ (storeV d a many x).length = d.length := by
  unfold storeV
  split
  · exact ⟨h.store _ _ _, storeS_len _ _ _ _⟩
  · exact ⟨h, rfl⟩
theorem getM_bd {m : Mx} (h : m.ok) (r : Int) : 0 ≤ getM m r ∧ getM m r < 4294967296 := h.f.gF _ _ _
theorem sndM_bd {m : Mx} (h : m.ok) (x : Ix) : 0 ≤ sndM m x ∧ sndM m x < 4294967296 := by
  unfold sndM; split; exact u32_bd _; exact getM_bd h _
theorem setM_ok {m : Mx} (h : m.ok) (r : Int) {x : Int} (hx : 0 ≤ x ∧ x < 4294967296) : (setM m r x).ok := by
  obtain ⟨a1, a2, a3, a4, a5, a6, a7, a8, a9, b1, b2, b3, b4, b5, b6, b7, b8, b9, c1⟩ := h
  exact ⟨a1.sF _ _ _ hx, a2, a3, a4, a5, a6, a7, a8, by show pmayP m.p ((setF m.f _ _ _ x).nw : Int); rw [setF_nw]; exact a9, b1, b2, b3, b4, b5, b6, b7, b8, b9, c1⟩
theorem haltM_ok {m : Mx} (h : m.ok) {k v : Int} (hk : 0 ≤ k ∧ k < 256) (hv : 0 ≤ v ∧ v < 4294967296) : (haltM m k v).ok := by
  obtain ⟨a1, a2, a3, a4, a5, a6, a7, a8, a9, b1, b2, b3, b4, b5, b6, b7, b8, b9, c1⟩ := h
  exact ⟨a1, a2, a3, a4, a5, a6, a7, a8, a9, b1, b2, b3, b4, b5, b6, hk.1, hk.2, hv.1, hv.2⟩
theorem pcM_ok {m : Mx} (h : m.ok) {x : Int} (hx : 0 ≤ x ∧ x < 4294967296) : ({ m with pc := x } : Mx).ok := by
  obtain ⟨a1, a2, a3, a4, a5, a6, a7, a8, a9, b1, b2, b3, b4, b5, b6, b7, b8, b9, c1⟩ := h
  exact ⟨a1, a2, a3, hx.1, hx.2, a6, a7, a8, a9, b1, b2, b3, b4, b5, b6, b7, b8, b9, c1⟩
theorem wimM_ok {m : Mx} (h : m.ok) {x : Int} (hx : 0 ≤ x ∧ x < 4294967296) : ({ m with wim := x } : Mx).ok := by
  obtain ⟨a1, a2, a3, a4, a5, a6, a7, a8, a9, b1, b2, b3, b4, b5, b6, b7, b8, b9, c1⟩ := h
  exact ⟨a1, a2, a3, a4, a5, hx.1, hx.2, a8, a9, b1, b2, b3, b4, b5, b6, b7, b8, b9, c1⟩
theorem psM_ok {m : Mx} (h : m.ok) {p : Px} (hb : p.bd) (hp : pmayP p m.nw) : ({ m with p := p } : Mx).ok := by
  obtain ⟨a1, a2, a3, a4, a5, a6, a7, a8, a9, b1, b2, b3, b4, b5, b6, b7, b8, b9, c1⟩ := h
  exact ⟨a1, a2, a3, a4, a5, a6, a7, hb, hp, b1, b2, b3, b4, b5, b6, b7, b8, b9, c1⟩
theorem memM_ok {m : Mx} (h : m.ok) {d : List Int} (hb : Bytes d) (hl : d.length = m.mem.length) : ({ m with mem := d } : Mx).ok := by
  obtain ⟨a1, a2, a3, a4, a5, a6, a7, a8, a9, b1, b2, b3, b4, b5, b6, b7, b8, b9, c1⟩ := h
  exact ⟨a1, hb, by show d.length ≤ _; omega, a4, a5, a6, a7, a8, a9, b1, b2, b3, b4, b5, b6, b7, b8, b9, c1⟩
theorem tpcM_ok {m : Mx} (h : m.ok) (i : Nat) {x : Int} (hx : 0 ≤ x ∧ x < 4294967296) : ({ m with tpc := m.tpc.set i x } : Mx).ok := by
  obtain ⟨a1, a2, a3, a4, a5, a6, a7, a8, a9, b1, b2, b3, b4, b5, b6, b7, b8, b9, c1⟩ := h
  exact ⟨a1, a2, a3, a4, a5, a6, a7, a8, a9, by simpa using b1, b2.set _ hx, b3, b4, b5, b6, b7, b8, b9, c1⟩
theorem tpsrM_ok {m : Mx} (h : m.ok) (i : Nat) {x : Int} (hx : 0 ≤ x ∧ x < 4294967296) : ({ m with tpsr := m.tpsr.set i x } : Mx).ok := by
  obtain ⟨a1, a2, a3, a4, a5, a6, a7, a8, a9, b1, b2, b3, b4, b5, b6, b7, b8, b9, c1⟩ := h
  exact ⟨a1, a2, a3, a4, a5, a6, a7, a8, a9, b1, b2, by simpa using b3, b4.set _ hx, b5, b6, b7, b8, b9, c1⟩
theorem chM_ok {m : Mx} (h : m.ok) {l : List Int} (hl : Words l) : ({ m with ch := l } : Mx).ok := by
  obtain ⟨a1, a2, a3, a4, a5, a6, a7, a8, a9, b1, b2, b3, b4, b5, b6, b7, b8, b9, c1⟩ := h
  exact ⟨a1, a2, a3, a4, a5, a6, a7, a8, a9, b1, b2, b3, b4, hl, b6, b7, b8, b9, c1⟩
theorem outM_ok {m : Mx} (h : m.ok) {l : List Int} (hl : Words l) : ({ m with out := l } : Mx).ok := by
  obtain ⟨a1, a2, a3, a4, a5, a6, a7, a8, a9, b1, b2, b3, b4, b5, b6, b7, b8, b9, c1⟩ := h
  exact ⟨a1, a2, a3, a4, a5, a6, a7, a8, a9, b1, b2, b3, b4, b5, hl, b7, b8, b9, c1⟩
theorem onM_ok {m : Mx} (h : m.ok) : (onM m).ok := pcM_ok h (u32_bd _)
theorem trapM_ok {m : Mx} (h : m.ok) {bank kind pc : Int} (hb : 0 ≤ bank ∧ bank < 17) (hk : 0 ≤ kind ∧ kind < 256) (hp : 0 ≤ pc ∧ pc < 4294967296) : (trapM m bank kind pc).ok := by
  have h1 := tpcM_ok h bank.toNat hp
  have h2 := tpsrM_ok h1 bank.toNat (packS_bd (nw := m.nw) h.pb)
  have h3 := psM_ok h2 (p := { m.p with bank := bank }) ⟨h.pb.1, h.pb.2.1, ⟨hb.1, by show bank < 256; omega⟩, h.pb.2.2.2⟩ ⟨h.pm.1, h.pm.2.1, hb.2, h.pm.2.2.2⟩
  exact pcM_ok h3 (x := 256 + 16 * kind) (by omega)
theorem winM_ok {m : Mx} (h : m.ok) {kind pc : Int} (hk : 0 ≤ kind ∧ kind < 256) (hp : 0 ≤ pc ∧ pc < 4294967296) : (winM m kind pc).ok := by
  unfold winM
  split
  · exact trapM_ok h (by omega) hk hp
  · exact haltM_ok h (by omega) (by omega)
theorem turnM_ok {m : Mx} (h : m.ok) (rd a b : Int) {to kind : Int} (ht : 0 ≤ to ∧ to < m.nw) (hk : 0 ≤ kind ∧ kind < 256) : (turnM m rd a b to kind).ok := by
  unfold turnM
  split
  · exact winM_ok h hk ⟨h.pc0, h.pc1⟩
  · have hn := h.win.2
    exact onM_ok (setM_ok (psM_ok h (p := { m.p with cwp := to }) ⟨⟨ht.1, by show to < 256; omega⟩, h.pb.2⟩ ⟨ht.2, h.pm.2⟩) _ (u32_bd _))
theorem loadM_ok {m : Mx} (h : m.ok) (rd at' many : Int) : (loadM m rd at' many).ok := by
  unfold loadM
  split
  · exact onM_ok (setM_ok h _ (loadV_bd h.bytes _ _))
  · exact haltM_ok h (by omega) (by omega)
theorem storeM_ok {m : Mx} (h : m.ok) (rd at' many : Int) : (storeM m rd at' many).ok := by
  unfold storeM
  split
  · have := storeV_ok h.bytes at' many (getM m rd)
    exact onM_ok (memM_ok h this.1 this.2)
  · exact haltM_ok h (by omega) (by omega)
structure Ix.fits (x : Ix) : Prop where
  op0 : 1 ≤ x.op
  op1 : x.op ≤ 37
  rd0 : 0 ≤ x.rd
  rd1 : x.rd < 32
  a0 : 0 ≤ x.rs1
  a1 : x.rs1 < 32
  b0 : 0 ≤ x.rs2
  b1 : x.rs2 < 32
  i0 : -2147483648 ≤ x.imm
  i1 : x.imm < 2147483648
  num : x.op = 15 ∨ x.op = 17 ∨ x.op = 18 ∨ x.op = 30 ∨ x.op = 31 ∨ x.op = 33 ∨ x.op = 37 → x.is = true
  trap : x.op = 33 → 3 ≤ x.imm ∧ x.imm ≤ 4
  cond : x.op = 17 → x.rd ≤ 6
  long : x.op = 15 → 0 ≤ x.imm ∧ x.imm < 2097152
  bit : x.op = 30 ∨ x.op = 31 → 0 ≤ x.imm ∧ x.imm ≤ 1
  fau : x.op = 37 → 1 ≤ x.imm ∧ x.imm ≤ 3
  ret : x.op = 32 → x.imm = 0
theorem fits_of {x : Ix} (hb : x.bd) (h : mayP x) : x.fits := by
  obtain ⟨⟨o0, o1⟩, ⟨r0, r1⟩, ⟨a0, a1⟩, b0, b1⟩ := may_bd hb h
  have hi := hb.2.2.2.2
  have hk := h.2.2.2
  have h3 : x.op = 15 → okS 3 x = true := fun e => by rw [show kindS x.op = 3 from by rw [e]; rfl] at hk; exact hk
  have h4 : x.op = 17 → okS 4 x = true := fun e => by rw [show kindS x.op = 4 from by rw [e]; rfl] at hk; exact hk
  have h5 : x.op = 18 → okS 5 x = true := fun e => by rw [show kindS x.op = 5 from by rw [e]; rfl] at hk; exact hk
  have h7 : x.op = 30 → okS 7 x = true := fun e => by rw [show kindS x.op = 7 from by rw [e]; rfl] at hk; exact hk
  have h8 : x.op = 31 → okS 8 x = true := fun e => by rw [show kindS x.op = 8 from by rw [e]; rfl] at hk; exact hk
  have h9 : x.op = 33 → okS 9 x = true := fun e => by rw [show kindS x.op = 9 from by rw [e]; rfl] at hk; exact hk
  have h11 : x.op = 37 → okS 11 x = true := fun e => by rw [show kindS x.op = 11 from by rw [e]; rfl] at hk; exact hk
  have g3 : okS 3 x = true → _ := fun e => of_decide_eq_true (p := x.is = true ∧ x.rs1 = 0 ∧ x.rs2 = 0 ∧ 0 ≤ x.imm ∧ x.imm < 2097152) e
  have g4 : okS 4 x = true → _ := fun e => of_decide_eq_true (p := x.is = true ∧ x.rd ≤ 6 ∧ x.rs1 = 0 ∧ x.rs2 = 0 ∧ -1048576 ≤ x.imm ∧ x.imm < 1048576) e
  have g5 : okS 5 x = true → _ := fun e => of_decide_eq_true (p := x.is = true ∧ x.rd = 0 ∧ x.rs1 = 0 ∧ x.rs2 = 0 ∧ -1048576 ≤ x.imm ∧ x.imm < 1048576) e
  have g7 : okS 7 x = true → _ := fun e => of_decide_eq_true (p := x.is = true ∧ x.rs1 = 0 ∧ x.rs2 = 0 ∧ 0 ≤ x.imm ∧ x.imm ≤ 1) e
  have g8 : okS 8 x = true → _ := fun e => of_decide_eq_true (p := x.is = true ∧ x.rd = 0 ∧ x.rs2 = 0 ∧ 0 ≤ x.imm ∧ x.imm ≤ 1) e
  have g9 : okS 9 x = true → _ := fun e => of_decide_eq_true (p := x.is = true ∧ x.rd = 0 ∧ x.rs1 = 0 ∧ x.rs2 = 0 ∧ 3 ≤ x.imm ∧ x.imm ≤ 4) e
  have g11 : okS 11 x = true → _ := fun e => of_decide_eq_true (p := x.is = true ∧ x.rd = 0 ∧ x.rs1 = 0 ∧ x.rs2 = 0 ∧ 1 ≤ x.imm ∧ x.imm ≤ 3) e
  have h12 : x.op = 32 → okS 12 x = true := fun e => by rw [show kindS x.op = 12 from by rw [e]; rfl] at hk; exact hk
  have g12 : okS 12 x = true → _ := fun e => of_decide_eq_true (p := x.is = false ∧ x.rd = 0 ∧ x.rs1 = 0 ∧ x.rs2 = 0 ∧ x.imm = 0) e
  refine ⟨o0, o1, r0, by omega, a0, by omega, b0, by omega, hi.1, hi.2, ?_, ?_, ?_, ?_, ?_, ?_, fun e => (g12 (h12 e)).2.2.2.2⟩
  · rintro (e | e | e | e | e | e | e)
    · exact (g3 (h3 e)).1
    · exact (g4 (h4 e)).1
    · exact (g5 (h5 e)).1
    · exact (g7 (h7 e)).1
    · exact (g8 (h8 e)).1
    · exact (g9 (h9 e)).1
    · exact (g11 (h11 e)).1
  · exact fun e => ⟨(g9 (h9 e)).2.2.2.2.1, (g9 (h9 e)).2.2.2.2.2⟩
  · exact fun e => (g4 (h4 e)).2.1
  · exact fun e => ⟨(g3 (h3 e)).2.2.2.1, (g3 (h3 e)).2.2.2.2⟩
  · rintro (e | e)
    · exact ⟨(g7 (h7 e)).2.2.2.1, (g7 (h7 e)).2.2.2.2⟩
    · exact ⟨(g8 (h8 e)).2.2.2.1, (g8 (h8 e)).2.2.2.2⟩
  · exact fun e => ⟨(g11 (h11 e)).2.2.2.2.1, (g11 (h11 e)).2.2.2.2.2⟩
theorem atM_fits {m : Mx} (h : m.ok) (hn : ¬ noneAt m) : (atM m).fits := by
  unfold noneAt at hn
  have hd : decB (loadV m.mem m.pc 4) = true := by
    cases hc : decB (loadV m.mem m.pc 4) with
    | true => rfl
    | false => exact absurd (.inr hc) hn
  have hl := loadV_bd h.bytes m.pc 4
  have he := enc_dec hd
  refine fits_of ?_ he.1
  unfold atM decS
  rw [if_pos hd]
  exact raw_bd hl.1 hl.2
theorem tail_words {l : List Int} (h : Words l) : Words l.tail := fun x hx => h x (List.mem_of_mem_tail hx)
theorem headD_bd {l : List Int} (h : Words l) : 0 ≤ l.headD 0 ∧ l.headD 0 < 4294967296 := by
  cases l with
  | nil => simp
  | cons a l => exact h a (by simp)
theorem ok_ite {c : Prop} [Decidable c] {a b : Mx} (ha : c → a.ok) (hb : ¬ c → b.ok) : (if c then a else b).ok := by split; exact ha ‹_›; exact hb ‹_›
set_option maxHeartbeats 1000000 in
theorem opS_ok {m : Mx} (h : m.ok) {x : Ix} (hx : x.fits) {a b : Int} (ha : 0 ≤ a ∧ a < 4294967296) (hb : 0 ≤ b ∧ b < 4294967296) : (opS m x a b).ok := by
  have hn := h.win.1
  have hpc : 0 ≤ m.pc ∧ m.pc < 4294967296 := ⟨h.pc0, h.pc1⟩
  have hB := h.bank
  have h30 : (haltM m 3 0).ok := haltM_ok h (by omega) (by omega)
  have ht : ∀ i, 0 ≤ m.tpc.getD i 0 ∧ m.tpc.getD i 0 < 4294967296 := h.tw.at
  have hs : ∀ i, 0 ≤ m.tpsr.getD i 0 ∧ m.tpsr.getD i 0 < 4294967296 := h.sw.at
  unfold opS
  refine ok_ite (fun e => ?_) (fun _ => ?_)
  · refine ok_ite (fun he => ?_) (fun _ => ?_)
    · exact onM_ok (setM_ok h _ (doW_bd _ ha.1 ha.2 hb.2))
    · exact haltM_ok h (by omega) (by omega)
  refine ok_ite (fun e => ?_) (fun _ => ?_)
  · exact onM_ok (setM_ok h _ (u32_bd _))
  refine ok_ite (fun e => ?_) (fun _ => ?_)
  · have hf := flagsS_bd a b
    exact onM_ok (psM_ok h ⟨h.pb.1, h.pb.2.1, h.pb.2.2.1, hf.1, by show flagsS a b < 256; omega⟩ ⟨h.pm.1, h.pm.2.1, h.pm.2.2.1, hf.2⟩)
  refine ok_ite (fun e => ?_) (fun _ => ?_)
  · refine ok_ite (fun he => ?_) (fun _ => ?_)
    · exact pcM_ok h (u32_bd _)
    · exact onM_ok h
  refine ok_ite (fun e => ?_) (fun _ => ?_)
  · exact pcM_ok (setM_ok h _ hpc) (u32_bd _)
  refine ok_ite (fun e => ?_) (fun _ => ?_)
  · exact pcM_ok (setM_ok h _ hpc) (u32_bd _)
  refine ok_ite (fun e => ?_) (fun _ => ?_)
  · exact turnM_ok h _ _ _ (stepV_bd (by omega)) (by omega)
  refine ok_ite (fun e => ?_) (fun _ => ?_)
  · exact turnM_ok h _ _ _ (stepV_bd (by omega)) (by omega)
  refine ok_ite (fun e => ?_) (fun _ => ?_)
  · exact loadM_ok h _ _ _
  refine ok_ite (fun e => ?_) (fun _ => ?_)
  · exact storeM_ok h _ _ _
  refine ok_ite (fun e => ?_) (fun _ => ?_)
  · exact loadM_ok h _ _ _
  refine ok_ite (fun e => ?_) (fun _ => ?_)
  · exact storeM_ok h _ _ _
  refine ok_ite (fun e => ?_) (fun _ => ?_)
  · exact onM_ok (setM_ok h _ (packS_bd h.pb))
  refine ok_ite (fun e => ?_) (fun _ => ?_)
  · refine ok_ite (fun he => ?_) (fun _ => ?_)
    · have := unS_ok (u32_bd _).1 he
      exact onM_ok (psM_ok h this.1 this.2)
    · exact h30
  refine ok_ite (fun e => ?_) (fun _ => ?_)
  · exact onM_ok (setM_ok h _ ⟨h.wim0, h.wim1⟩)
  refine ok_ite (fun e => ?_) (fun _ => ?_)
  · refine ok_ite (fun he => ?_) (fun _ => ?_)
    · exact onM_ok (wimM_ok h (u32_bd _))
    · exact h30
  refine ok_ite (fun e => ?_) (fun _ => ?_)
  · refine ok_ite (fun he => ?_) (fun _ => ?_)
    · exact h30
    · refine onM_ok (setM_ok h _ ?_)
      split
      · exact hs _
      · exact ht _
  refine ok_ite (fun e => ?_) (fun _ => ?_)
  · refine ok_ite (fun he => ?_) (fun _ => ?_)
    · exact h30
    · refine onM_ok ?_
      split
      · exact tpsrM_ok h _ ha
      · exact tpcM_ok h _ ha
  refine ok_ite (fun e => ?_) (fun _ => ?_)
  · refine ok_ite (fun he => ?_) (fun _ => ?_)
    · exact h30
    · refine ok_ite (fun he => ?_) (fun _ => ?_)
      · have := unS_ok (hs _).1 he
        exact pcM_ok (psM_ok h this.1 this.2) (ht _)
      · exact h30
  refine ok_ite (fun e => ?_) (fun _ => ?_)
  · have := hx.trap e
    exact winM_ok h (by omega) (u32_bd _)
  refine ok_ite (fun e => ?_) (fun _ => ?_)
  · exact onM_ok (setM_ok (chM_ok h (tail_words h.cw)) _ (headD_bd h.cw))
  refine ok_ite (fun e => ?_) (fun _ => ?_)
  · exact onM_ok (outM_ok h (fun y hy => by
      rcases List.mem_append.1 hy with hy | hy
      · exact h.ow y hy
      · rw [List.mem_singleton.1 hy]; exact ha))
  refine ok_ite (fun e => ?_) (fun _ => ?_)
  · exact haltM_ok h (by omega) ha
  · exact haltM_ok h (by omega) hb
theorem irqM_ok {m : Mx} (h : m.ok) {level : Int} (h0 : 0 ≤ level) (h1 : level < 16) : (irqM m level).ok := by
  have h2 := trapM_ok h (bank := level) (kind := 16 + level) (pc := m.pc) (by omega) (by omega) ⟨h.pc0, h.pc1⟩
  exact psM_ok h2 (p := { m.p with bank := level, pil := level }) ⟨h.pb.1, ⟨h0, by show level < 256; omega⟩, ⟨h0, by show level < 256; omega⟩, h.pb.2.2.2⟩ ⟨h.pm.1, h1, by show level < 17; omega, h.pm.2.2.2⟩
theorem runM_ok {m : Mx} (h : m.ok) : (runM m).ok := by
  unfold runM
  split
  · exact haltM_ok h (by omega) (by omega)
  · rename_i hn
    exact opS_ok h (atM_fits h hn) (getM_bd h _) (sndM_bd h _)
theorem stepM_ok {m : Mx} (h : m.ok) {level : Int} (h0 : 0 ≤ level) : (stepM m level).ok := by
  unfold stepM
  split
  · exact h
  split
  · rename_i hl; exact irqM_ok h h0 hl.1
  · exact runM_ok h
end Go.Proofs.YtajholbcpmjhiaaGreatDoor
/- The plain law of muntinlaw05.MemKeeps: what bytes a store changes. -/
namespace Go.Proofs.YtajholbcpmjhiaaGreatDoor
open Go.RowKit
theorem getD_set_ne (d : List Int) (i j : Nat) (x : Int) (h : i ≠ j) : (d.set i x).getD j 0 = d.getD j 0 := by
  simp [List.getD_eq_getElem?_getD, h]
theorem getD_set_eq (d : List Int) (i : Nat) (x : Int) (h : i < d.length) : (d.set i x).getD i 0 = x := by
  simp [List.getD_eq_getElem?_getD, h]
end Go.Proofs.YtajholbcpmjhiaaGreatDoor
/- The walks of mem.New, Copy, Put and Words. -/
namespace Go.Proofs.YtajholbcpmjhiaaGreatDoor
open Go.RowKit
theorem info8 : (Tryz.prog.info? 5).map (fun i => (i.zero, i.size, i.bytes)) = some (some (.int .u8 0), 1, 1) := by kernel_rfl
theorem info32 : (Tryz.prog.info? 24).map (fun i => (i.zero, i.size, i.bytes)) = some (some (.int .u32 0), 1, 4) := by kernel_rfl
theorem memAt_of_row {w : World} {base n : Nat} {d : List Int} {g cap : Nat} (h : w.ownsRow base 5 1 (.slice (some ⟨g, 0, none⟩) n cap) n (u8s d)) (hb : Bytes d) (hl : d.length ≤ 4194304) :
    MemAt (w.alloc (.cells #[.slice (some ⟨g, 0, none⟩) n cap, .bool true] 191)) w.heap.size g d := by
  obtain ⟨hn, h2⟩ := h
  have hn2 : d.length = n := by simpa [u8s] using hn
  rcases h2 with ⟨h2, _⟩ | ⟨g', cap', cur, hv, hg, hh, hc, hm, hs, ht⟩
  · cases h2
  · cases hv
    have hlt := lt_of_block hh
    refine ⟨⟨cap, ?_, by omega, hm⟩, ⟨cur.toList.drop (n * 1), ?_⟩, hb, by omega, hl⟩
    · rw [hn2]; show (w.heap.push _)[w.heap.size]? = _; simp
    · rw [Below.heap_alloc _ _ _ hlt, hh, ← ht, List.take_append_drop]
def Makes (n : Nat) (w : World) (e : Ending) (w' : World) : Prop :=
  ∃ m g, e = .returned (.tuple #[.pointer (some ⟨m, 0, none⟩), .int .i64 0]) ∧ w.heap.size ≤ m ∧ w.heap.size ≤ g ∧ MemAt w' m g (List.replicate n 0) ∧ Below w.heap.size w w'
set_option maxHeartbeats 400000 in
theorem new_ok (n : Nat) (w : World) (h : n ≤ 4194304) (h4 : n % 4 = 0) : Calls Tryz.prog 122 #[.int .i64 n] w (Makes n w) := by
  obtain ⟨i0, hi, hz0, hz1, hz2⟩ := info_parts info8
  have hq2 : i0.bytes * n ≤ 281474976710656 := by rw [hz2]; omega
  have hq3 : n ≤ maxLen := by unfold maxLen; omega
  have h5 : ¬ ((n : Int) < 0) := by omega
  have h6 : ¬ (4194304 < (n : Int)) := by omega
  have h7 : (n : Int) % 4 = 0 := by omega
  go_enter Tryz.func122, Tryz.ntmps122
  go_wp2_with (at_make; refine wpList_make_full _ rfl _ _ 56 rfl w.heap.size 5 i0 (.int .u8 0) 1 Tryz.underlying56 hi hz0 hz1 .i64 .i64 n n n rfl rfl rfl rfl hq2 hq3 (Nat.le_refl _) ?_; intro w1 hown hgrow)
  have hsz := hgrow.size
  have hr : (madeCells (Value.int .u8 0).cells (n * 1)).toList = u8s (List.replicate n 0) := by
    rw [Nat.mul_one]; unfold u8s; rw [List.map_replicate]; exact toList_madeCells_one _ n
  rw [hr] at hown
  go_wp2
  go_ret2
  exact ⟨_, _, rfl, hsz, Nat.le_refl _, memAt_of_row hown (Bytes.zeros n) (by simpa using h), ((Below.refl _ w).grown hgrow (Nat.le_refl _) (fun k e => by cases e)).alloc hsz _⟩
theorem u32s_one {d : List Int} : ∀ u ∈ u32s d, u.oneCell' = true := by
  intro u hu; unfold u32s at hu; obtain ⟨x, _, rfl⟩ := List.mem_map.1 hu; rfl
end Go.Proofs.YtajholbcpmjhiaaGreatDoor
/- The walk of mem.Put. -/
namespace Go.Proofs.YtajholbcpmjhiaaGreatDoor
open Go.RowKit
theorem putS_snoc (x : Int) : ∀ (l d : List Int) (a : Nat), putS d a (l ++ [x]) = storeS (putS d a l) (a + 4 * l.length) 4 x := by
  intro l
  induction l with
  | nil => intro d a; simp [putS]
  | cons y l ih => intro d a; simp only [List.cons_append, putS]; rw [ih]; congr 1; simp; omega
theorem putS_take (l d : List Int) (a k : Nat) (hk : k < l.length) : putS d a (l.take (k + 1)) = storeS (putS d a (l.take k)) (a + 4 * k) 4 (l.getD k 0) := by
  have e : l.take (k + 1) = l.take k ++ [l.getD k 0] := by
    rw [List.take_succ_eq_append_getElem hk, List.getD_eq_getElem?_getD, List.getElem?_eq_getElem hk]; rfl
  rw [e, putS_snoc, List.length_take, Nat.min_eq_left (by omega)]
def putV (d : List Int) (a : Int) (l : List Int) : List Int := if spanE d.length a l.length 4 = 0 then putS d a.toNat l else d
def Puts (m g : Nat) (d : List Int) (a : Int) (l : List Int) (w : World) (e : Ending) (w' : World) : Prop :=
  e = .returned (.int .i64 (spanE d.length a l.length 4)) ∧ MemAt w' m g (putV d a l) ∧ Only (· = g) w w' ∧ w'.heap.size = w.heap.size
set_option maxRecDepth 100000 in
set_option maxHeartbeats 1000000 in
theorem put_any (w : World) (m g : Nat) (d : List Int) (h : MemAt w m g d) (a : Int) (ha : 0 ≤ a) (ha2 : a < 4294967296) (v : Value) (l : List Int) (hl : l.length ≤ maxLen) (hv : U32s (· = g) w v l) :
    Calls Tryz.prog 53 #[.pointer (some ⟨m, 0, none⟩), .int .u32 a, v] w (Puts m g d a l w) := by
  unfold maxLen at hl
  have hs := span_any w m g d h a l.length 4 ha ha2 (by omega)
  have HS := mhid hs
  have H := mhid h
  clear hs h
  obtain ⟨hw, p, c, rfl, hv⟩ := hv
  have HV := mhid hv
  clear hv
  go_enter Tryz.func53, Tryz.ntmps53
  go_wp2_with fail
  refine HS.out.mono ?_
  rintro e w' (⟨he, ⟨v, rfl, b, rfl, hb⟩, rfl⟩ | ⟨he, rfl, rfl⟩)
  · obtain ⟨_, _, h4, h5⟩ := spanE_ok he ha
    have HE := mhid he
    clear he HS
    by_cases h0 : l.length = 0
    · obtain rfl : l = [] := List.length_eq_zero_iff.1 h0
      clear h0 hb
      go_wp2_with fail
      go_rounds 1
      go_ret
      refine ⟨mret_i HE.out.symm, ?_, Only.refl _ _, rfl⟩
      rw [show putV d a [] = d from by unfold putV; split <;> rfl]; exact H.out
    · have hb2 : b = a.toNat := by omega
      subst hb2
      clear hb
      have hl4 : ((4 * (l.length : Int)).toNat : Nat) = 4 * l.length := by omega
      rw [hl4]
      clear hl4
      · obtain ⟨b, o, rfl, hb1, hb2, hc⟩ := HV.out (by omega)
        have hbs2 : ¬ b = g ∧ b < w.heap.size := ⟨hb1, hb2⟩
        have HC := mhid hc
        have h0' : 0 < l.length := by omega
        clear hc HV h0 hb1 hb2
        go_wp2_with fail
        go_loopw [9, 21] (fun _ i wr => ∃ k : Nat, k ≤ l.length ∧ i = .int .i64 k ∧ MemAt wr m g (putS d a.toNat (l.take k)) ∧ Only (· = g) w wr ∧ wr.heap.size = w.heap.size) (fun _ i _ => l.length - (intOf i).toNat)
        case atStart => exact ⟨0, Nat.zero_le _, rfl, H.out, Only.refl _ _, rfl⟩
        case round =>
          obtain ⟨k, hk, rfl, hmem, honly, hsz⟩ := hrel
          have hlen := hmem.len
          by_cases hlt : k < l.length
          · have hcell : wr.cell? ⟨b, o + k, none⟩ = some (.int .u32 (l.getD k 0)) := (honly.cell (p := ⟨b, o + k, none⟩) hbs2.2 hbs2.1).trans (HC.out k hlt)
            have hx := hw.at k
            have hlen2 := putS_len (l.take k) d a.toNat
            rw [hlen2] at hlen
            have HM := mhid hmem
            have HO := mhid honly
            clear hmem honly hlen2 HC
            have hpt := putS_take l d a.toNat k hlt
            have HP := mhid hpt
            clear hpt
            generalize l.getD k 0 = x at hcell hx HP
            have hk4 : (k : Int) < l.length := by omega
            go_wp2_with fail
            have f1 : IntKind.i64.wrap (4 * (k : Int)) = 4 * (k : Int) := IntWalk.i64_in _ (by omega)
            have f2 : IntKind.i64.wrap (4 * (k : Int) + 4) = 4 * (k : Int) + 4 := IntWalk.i64_in _ (by omega)
            have f3 : (0 : Int) ≤ 4 * (k : Int) := by omega
            have f4 : (0 : Int) ≤ 4 * (k : Int) + 4 := by omega
            have f5 : (4 * (k : Int) + 4).toNat = 4 * k + 4 := by omega
            have f6 : (4 * (k : Int)).toNat = 4 * k := by omega
            have f7 : 4 * (k : Int) + 4 ≤ 4 * (l.length : Int) := by omega
            have f8 : ¬ 4 * l.length = 4 * k := by omega
            have f9 : 4 * (k : Int) ≤ 4 * (k : Int) + 4 := by omega
            go_still_tail 11, (by kernel_rfl)
            have HF := mhid (And.intro f1 f2)
            clear f1 f2 f3 f4 f5 f6 f7 f8 f9
            change wpList _ _ _ _ _ wr.drew
            have HM2 : MemAt wr.drew m g (putS d a.toNat (l.take k)) := HM.out.keep ((Only.refl (fun _ => False) wr).drew) id id
            have HO2 : Only (· = g) w wr.drew := HO.out.drew
            have hsz2 : wr.drew.heap.size = w.heap.size := hsz
            generalize wr.drew = w2 at HM2 HO2 hsz2 ⊢
            go_wp2_with fail
            refine (lay_four _ m g _ HM2 (a.toNat + 4 * k) _ _ hx.1 hx.2 (by rw [putS_len]; omega)).mono ?_
            rintro e w' ⟨rfl, rfl⟩
            have HM3 := HM2.laid4 (a := a.toNat + 4 * k) (x := x) (by rw [putS_len]; omega)
            rw [← HP.out] at HM3
            have HO3 := HO2.trans (laid4_only w2 g (a.toNat + 4 * k) x)
            have hs3 : (laid4 w2 g (a.toNat + 4 * k) x).heap.size = w.heap.size := by simp [laid4, hsz2]
            generalize laid4 w2 g (a.toNat + 4 * k) x = w3 at HM3 HO3 hs3 ⊢
            clear HM2 HO2 HM HO
            have G3 := mhid (And.intro HM3 (And.intro HO3 hs3))
            clear HM3 HO3 hs3
            go_wp2_with fail
            go_roundw
            case rel => exact ⟨k + 1, by omega, by go_num, G3.out.1, G3.out.2.1, G3.out.2.2⟩
            case measure => simp [intOf] <;> omega
          · obtain rfl : k = l.length := by omega
            go_wp2_with fail
            go_ret
            refine ⟨mret_i HE.out.symm, ?_, honly, hsz⟩
            rw [show putV d a l = putS d a.toNat l from if_pos HE.out]
            rw [List.take_length] at hmem
            exact hmem
  · clear HS
    have e0 : putV d a l = d := if_neg he
    have E0 := mhid e0
    clear e0
    go_wp2_with fail
    go_rounds 1
    go_ret
    exact ⟨mret_i rfl, by rw [E0.out]; exact H.out, Only.refl _ _, rfl⟩
end Go.Proofs.YtajholbcpmjhiaaGreatDoor
