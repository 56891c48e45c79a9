/- 'AsmConst', the tied card: for every input the law returns true, and each argument reads afterwards as it read before; the listed variables start as the program's text lays it (the card ties them). No other condition. -/
import Derived.Test.YtacfdddghdnboaaGreatDoorGT
import Derived.Test.YtacfdddghdnboaaGreatDoorGV
import Derived.Test.YtacfdddghdnboaaGreatDoorGZa
import Derived.Test.YtacfdddghdnboaaGreatDoorGZb
import Derived.Test.YtacfdddghdnboaaGreatDoorGY
import Derived.Test.YtacfdddghdnboaaGreatDoorGU
import Derived.Test.YtacfdddghdnboaaGreatDoorCards
import Derived.Test.YtacfdddghdnboaaGreatDoorTie
import Derived.WalkKit
import Derived.ProofKit
import Derived.OpenShut
import Derived.ShutString
import Derived.ChangeOld
import Derived.Below
import Derived.Deep.DeepHandedRow
import Derived.Lib.LaidTab
import Derived.SevenTiedAt
import Derived.LaidSub
/- The plain law of muntinlaw07.AsmConst: a constant's instructions, on a machine. No program in sight. -/
namespace Go.Proofs.YtacfdddghdnboaaGreatDoor
open Go.RowKit
set_option linter.unusedVariables false
set_option linter.unusedSimpArgs false
theorem place_inj {r s : Int} (h0 : 0 ≤ r ∧ r < 32) (h1 : 0 ≤ s ∧ s < 32) (hK : plK r = plK s) (hO : plO 2 0 0 r = plO 2 0 0 s) (hA : plA r = plA s) : r = s := by
  rcases pl_ways r with a | ⟨a, b⟩ | ⟨a, b⟩ | a <;> rcases pl_ways s with c | ⟨c, d⟩ | ⟨c, d⟩ | c
  all_goals first
    | (obtain ⟨e1, e2, e3⟩ := pl_g a 2 0 0; obtain ⟨g1, g2, g3⟩ := pl_g c 2 0 0; omega)
    | (obtain ⟨e1, e2, e3⟩ := pl_g a 2 0 0; obtain ⟨g1, g2, g3⟩ := pl_o c d 2 0 0; omega)
    | (obtain ⟨e1, e2, e3⟩ := pl_g a 2 0 0; obtain ⟨g1, g2, g3⟩ := pl_l c d 2 0 0; omega)
    | (obtain ⟨e1, e2, e3⟩ := pl_g a 2 0 0; obtain ⟨g1, g2, g3⟩ := pl_i c 2 0 0; omega)
    | (obtain ⟨e1, e2, e3⟩ := pl_o a b 2 0 0; obtain ⟨g1, g2, g3⟩ := pl_g c 2 0 0; omega)
    | (obtain ⟨e1, e2, e3⟩ := pl_o a b 2 0 0; obtain ⟨g1, g2, g3⟩ := pl_o c d 2 0 0; omega)
    | (obtain ⟨e1, e2, e3⟩ := pl_o a b 2 0 0; obtain ⟨g1, g2, g3⟩ := pl_l c d 2 0 0; omega)
    | (obtain ⟨e1, e2, e3⟩ := pl_o a b 2 0 0; obtain ⟨g1, g2, g3⟩ := pl_i c 2 0 0; omega)
    | (obtain ⟨e1, e2, e3⟩ := pl_l a b 2 0 0; obtain ⟨g1, g2, g3⟩ := pl_g c 2 0 0; omega)
    | (obtain ⟨e1, e2, e3⟩ := pl_l a b 2 0 0; obtain ⟨g1, g2, g3⟩ := pl_o c d 2 0 0; omega)
    | (obtain ⟨e1, e2, e3⟩ := pl_l a b 2 0 0; obtain ⟨g1, g2, g3⟩ := pl_l c d 2 0 0; omega)
    | (obtain ⟨e1, e2, e3⟩ := pl_l a b 2 0 0; obtain ⟨g1, g2, g3⟩ := pl_i c 2 0 0; omega)
    | (obtain ⟨e1, e2, e3⟩ := pl_i a 2 0 0; obtain ⟨g1, g2, g3⟩ := pl_g c 2 0 0; omega)
    | (obtain ⟨e1, e2, e3⟩ := pl_i a 2 0 0; obtain ⟨g1, g2, g3⟩ := pl_o c d 2 0 0; omega)
    | (obtain ⟨e1, e2, e3⟩ := pl_i a 2 0 0; obtain ⟨g1, g2, g3⟩ := pl_l c d 2 0 0; omega)
    | (obtain ⟨e1, e2, e3⟩ := pl_i a 2 0 0; obtain ⟨g1, g2, g3⟩ := pl_i c 2 0 0; omega)
theorem ok2 {r : Int} (h : 0 ≤ r ∧ r < 32) (f : Fx) (hf : f.nw = 2) : regOk f 0 0 r := by unfold regOk; rw [hf]; omega
/-- What one register that is set changes. -/
theorem get_set2 (f : Fx) (L : List Sd) (hl : LogOf L f) (hok : f.ok) (hf : f.nw = 2) {s r x : Int} (h0 : 0 ≤ r ∧ r < 32) (h1 : 0 ≤ s ∧ s < 32) : getV (setV f 0 0 s x) 0 0 r = if r = s ∧ 0 < r then x else getV f 0 0 r := by
  have hs := hl.set hok (ok2 h1 f hf) x
  have hn : (setV f 0 0 s x).nw = 2 := by rw [setV_nw, hf]
  rw [← hs.get (by omega) (ok2 h0 _ hn), ← hl.get (by omega) (ok2 h0 f hf)]
  rw [hn, hf]
  unfold atF
  rw [atL_snoc]
  have h2 : ((2 : Nat) : Int) = 2 := rfl
  rw [h2]
  by_cases hz : plK r = 0 ∧ plA r = 0
  · rw [if_pos hz, if_pos hz]
    have : r = 0 := by
      rcases pl_ways r with a | ⟨a, b⟩ | ⟨a, b⟩ | a
      · obtain ⟨e1, e2, e3⟩ := pl_g a 2 0 0; omega
      · obtain ⟨e1, e2, e3⟩ := pl_o a b 2 0 0; omega
      · obtain ⟨e1, e2, e3⟩ := pl_l a b 2 0 0; omega
      · obtain ⟨e1, e2, e3⟩ := pl_i a 2 0 0; omega
    rw [if_neg (by omega)]
  · rw [if_neg hz, if_neg hz]
    have hr0 : 0 < r := by
      rcases Int.lt_or_le 0 r with h | h
      · exact h
      · exfalso
        apply hz
        have : r = 0 := by omega
        obtain ⟨e1, e2, e3⟩ := pl_g (r := r) (by omega) 2 0 0
        omega
    by_cases he : plK s = plK r ∧ plO 2 0 0 s = plO 2 0 0 r ∧ plA s = plA r
    · rw [if_pos he, if_pos ⟨(place_inj h1 h0 he.1 he.2.1 he.2.2).symm, hr0⟩]
    · rw [if_neg he]
      rw [if_neg]
      rintro ⟨rfl, _⟩
      exact he ⟨rfl, rfl, rfl⟩
def constD (rd w : Int) : List Int := putV (List.replicate 64 0) 0 ((partsS rd w).map encS)
def const0 (rd w : Int) : Mx := { newM 2 64 with mem := constD rd w }
/-- The machine behind so many of the instructions. -/
def constN (rd w : Int) : Nat → Mx
  | 0 => const0 rd w
  | k + 1 => stepM (constN rd w k) 0
theorem parts_may {rd w : Int} (r0 : 0 ≤ rd) (r1 : rd ≤ 31) (h0 : 0 ≤ w) (h1 : w < 4294967296) : ∀ x ∈ partsS rd w, mayP x := by
  unfold partsS
  intro x hx
  split at hx
  · rename_i hs
    simp at hx; subst hx
    refine ⟨r1, by simp, by simp, ?_⟩
    show okS 1 _ = true
    unfold okS; rw [if_pos rfl]
    exact decide_eq_true (.inl ⟨rfl, rfl, hs.1, hs.2⟩)
  · split at hx
    · simp at hx; subst hx
      refine ⟨r1, by simp, by simp, ?_⟩
      show okS 3 _ = true
      exact decide_eq_true ⟨rfl, rfl, rfl, by simp only; omega, by simp only; omega⟩
    · simp at hx
      rcases hx with rfl | rfl
      · refine ⟨r1, by simp, by simp, ?_⟩
        show okS 3 _ = true
        exact decide_eq_true ⟨rfl, rfl, rfl, by simp only; omega, by simp only; omega⟩
      · refine ⟨r1, r1, by simp, ?_⟩
        show okS 1 _ = true
        unfold okS; rw [if_pos rfl]
        exact decide_eq_true (.inl ⟨rfl, rfl, show -16384 ≤ w % 2048 by omega, show w % 2048 < 16384 by omega⟩)
theorem parts_no {rd w : Int} (r1 : 31 < rd) : ¬ ∀ x ∈ partsS rd w, mayP x := by
  intro h
  unfold partsS at h
  split at h
  · have := (h ⟨1, rd, 0, 0, true, sgn w 2147483648⟩ (List.mem_singleton.2 rfl)).1; simp only at this; omega
  · split at h
    · have := (h ⟨15, rd, 0, 0, true, w / 2048⟩ (List.mem_singleton.2 rfl)).1; simp only at this; omega
    · have := (h ⟨15, rd, 0, 0, true, w / 2048⟩ (List.mem_cons_self ..)).1; simp only at this; omega
theorem parts_one_two (rd w : Int) : 1 ≤ (partsS rd w).length ∧ (partsS rd w).length ≤ 2 := by
  unfold partsS; split
  · simp
  · split <;> simp
theorem code_one {x : Ix} (hb : x.bd) (hm : mayP x) : CodeAt (putV (List.replicate 64 0) 0 [encS x]) 0 x := by
  have e : putV (List.replicate 64 0) 0 [encS x] = storeS (List.replicate 64 0) 0 4 (wordS x) := by
    unfold putV encS
    rw [if_pos (by simp [spanE]), if_pos hm]; rfl
  rw [e]
  exact CodeAt.new (by omega) (by simp) hb hm
theorem code_two {x y : Ix} (hx : x.bd) (hy : y.bd) (mx : mayP x) (my : mayP y) : CodeAt (putV (List.replicate 64 0) 0 [encS x, encS y]) 0 x ∧ CodeAt (putV (List.replicate 64 0) 0 [encS x, encS y]) 4 y := by
  have e : putV (List.replicate 64 0) 0 [encS x, encS y] = storeS (storeS (List.replicate 64 0) 0 4 (wordS x)) 4 4 (wordS y) := by
    unfold putV encS
    rw [if_pos (by simp [spanE]), if_pos mx, if_pos my]; rfl
  rw [e]
  exact ⟨(CodeAt.new (by omega) (by simp) hx mx).store _ (by omega), CodeAt.new (by omega) (by rw [storeS_len]; simp) hy my⟩
/-- How a machine lies behind a constant's instructions. -/
structure ConstI (rd : Int) (m : Mx) (k : Nat) (v : Int) : Prop where
  kind : m.kind = 0
  pc : m.pc = 4 * (k : Int)
  p : m.p = Px.zero
  out : m.out = []
  ch : m.ch = []
  f : m.f = setV (Fx.new 2) 0 0 rd v ∨ (∃ u, m.f = setV (setV (Fx.new 2) 0 0 rd u) 0 0 rd v) ∨ (k = 0 ∧ m.f = Fx.new 2)
theorem setM_V {m : Mx} {rd x : Int} (hp : m.p = Px.zero) (hf : m.f.nw = 2) (r0 : 0 ≤ rd) (r1 : rd ≤ 31) : setF m.f m.p.cwp.toNat m.p.bank.toNat rd.toNat x = setV m.f 0 0 rd x := by
  unfold setV
  rw [if_pos (ok2 ⟨r0, by omega⟩ m.f hf), hp]; rfl
theorem const_get0 (r : Int) (h : 0 ≤ r ∧ r < 32) : getV (Fx.new 2) 0 0 r = 0 := by
  rw [← (LogOf.new 2).get (by decide) (ok2 h _ rfl)]
  unfold atF atL; split <;> rfl
theorem new2_ok : (Fx.new 2).ok := Fx.ok.new (by omega) (by omega)
theorem const_run {rd w : Int} (r0 : 0 ≤ rd) (r1 : rd ≤ 31) (h0 : 0 ≤ w) (h1 : w < 4294967296) :
    (∀ k, k ≤ (partsS rd w).length → (constN rd w k).kind = 0 ∧ (constN rd w k).out = []) ∧
    (constN rd w (partsS rd w).length).pc = 4 * ((partsS rd w).length : Int) ∧ (constN rd w (partsS rd w).length).p = Px.zero ∧
    ∀ r, 0 ≤ r ∧ r < 32 → getV (constN rd w (partsS rd w).length).f 0 0 r = if r = rd ∧ 0 < r then w else 0 := by
  have hmay := parts_may r0 r1 h0 h1
  have hbd := parts_bd r0 (by omega) h0 h1
  have hset : ∀ v, ∀ r, 0 ≤ r ∧ r < 32 → getV (setV (Fx.new 2) 0 0 rd v) 0 0 r = if r = rd ∧ 0 < r then v else 0 := fun v r hr => by
    rw [get_set2 (Fx.new 2) [] (LogOf.new 2) new2_ok rfl hr ⟨r0, by omega⟩, const_get0 r hr]
  unfold partsS at hmay hbd ⊢
  by_cases hs : -16384 ≤ sgn w 2147483648 ∧ sgn w 2147483648 < 16384
  · have hd : constD rd w = putV (List.replicate 64 0) 0 [encS ⟨1, rd, 0, 0, true, sgn w 2147483648⟩] := by unfold constD partsS; rw [if_pos hs]; rfl
    rw [if_pos hs] at hmay hbd ⊢
    have hc := code_one (hbd _ (List.mem_singleton.2 rfl)) (hmay _ (List.mem_singleton.2 rfl))
    rw [← hd] at hc
    have e1 : constN rd w 1 = { const0 rd w with f := setV (Fx.new 2) 0 0 rd w, pc := 4 } := by
      show stepM (const0 rd w) 0 = _
      rw [step_code (m := const0 rd w) (a := 0) rfl (by intro h; exact absurd (show (0 : Int) < 0 from h.2) (by decide)) rfl hc]
      show onM (setM (const0 rd w) rd (u32 (getM (const0 rd w) 0 + u32 (sgn w 2147483648)))) = _
      have hv : u32 (getM (const0 rd w) 0 + u32 (sgn w 2147483648)) = w := by
        show u32 (0 + u32 (sgn w 2147483648)) = w
        unfold u32 sgn; split <;> omega
      rw [hv]
      unfold onM setM
      rw [setM_V (m := const0 rd w) rfl rfl r0 r1]
      rfl
    show (∀ k, k ≤ 1 → _) ∧ (constN rd w 1).pc = 4 * ((1 : Nat) : Int) ∧ (constN rd w 1).p = _ ∧ ∀ r, _ → getV (constN rd w 1).f 0 0 r = _
    rw [e1]
    refine ⟨fun k hk => ?_, rfl, rfl, fun r hr => hset w r hr⟩
    have : k = 0 ∨ k = 1 := by omega
    rcases this with rfl | rfl
    · exact ⟨rfl, rfl⟩
    · rw [e1]; exact ⟨rfl, rfl⟩
  · rw [if_neg hs] at hmay hbd ⊢
    have hu : u32 (u32 (w / 2048) * 2048) = w / 2048 * 2048 := by unfold u32; omega
    have first : ∀ {y : Ix}, CodeAt (constD rd w) 0 ⟨15, rd, 0, 0, true, w / 2048⟩ → constN rd w 1 = { const0 rd w with f := setV (Fx.new 2) 0 0 rd (w / 2048 * 2048), pc := 4 } := fun {y} hc => by
      show stepM (const0 rd w) 0 = _
      rw [step_code (m := const0 rd w) (a := 0) rfl (by intro h; exact absurd (show (0 : Int) < 0 from h.2) (by decide)) rfl hc]
      show onM (setM (const0 rd w) rd (u32 (u32 (w / 2048) * 2048))) = _
      rw [hu]
      unfold onM setM
      rw [setM_V (m := const0 rd w) rfl rfl r0 r1]
      rfl
    by_cases hz : w % 2048 = 0
    · have hd : constD rd w = putV (List.replicate 64 0) 0 [encS ⟨15, rd, 0, 0, true, w / 2048⟩] := by unfold constD partsS; rw [if_neg hs, if_pos hz]; rfl
      rw [if_pos hz] at hmay hbd ⊢
      have hc := code_one (hbd _ (List.mem_singleton.2 rfl)) (hmay _ (List.mem_singleton.2 rfl))
      rw [← hd] at hc
      have e1 := first (y := Ix.zero) hc
      rw [show w / 2048 * 2048 = w from by omega] at e1
      show (∀ k, k ≤ 1 → _) ∧ (constN rd w 1).pc = 4 * ((1 : Nat) : Int) ∧ (constN rd w 1).p = _ ∧ ∀ r, _ → getV (constN rd w 1).f 0 0 r = _
      rw [e1]
      refine ⟨fun k hk => ?_, rfl, rfl, fun r hr => hset w r hr⟩
      have : k = 0 ∨ k = 1 := by omega
      rcases this with rfl | rfl
      · exact ⟨rfl, rfl⟩
      · rw [e1]; exact ⟨rfl, rfl⟩
    · have hd : constD rd w = putV (List.replicate 64 0) 0 [encS ⟨15, rd, 0, 0, true, w / 2048⟩, encS ⟨7, rd, rd, 0, true, w % 2048⟩] := by unfold constD partsS; rw [if_neg hs, if_neg hz]; rfl
      rw [if_neg hz] at hmay hbd ⊢
      have hc := code_two (hbd _ (List.mem_cons_self ..)) (hbd _ (List.mem_cons_of_mem _ (List.mem_singleton.2 rfl))) (hmay _ (List.mem_cons_self ..)) (hmay _ (List.mem_cons_of_mem _ (List.mem_singleton.2 rfl)))
      rw [← hd] at hc
      have e1 := first (y := Ix.zero) hc.1
      have hg : getM { const0 rd w with f := setV (Fx.new 2) 0 0 rd (w / 2048 * 2048), pc := 4 } rd = if 0 < rd then w / 2048 * 2048 else 0 := by
        have := hset (w / 2048 * 2048) rd ⟨r0, by omega⟩
        unfold getV at this
        rw [if_pos (ok2 ⟨r0, by omega⟩ _ (by rw [setV_nw]; rfl))] at this
        show getF (setV (Fx.new 2) 0 0 rd (w / 2048 * 2048)) 0 0 rd.toNat = _
        rw [show getF (setV (Fx.new 2) 0 0 rd (w / 2048 * 2048)) 0 0 rd.toNat = getF (setV (Fx.new 2) 0 0 rd (w / 2048 * 2048)) (0 : Int).toNat (0 : Int).toNat rd.toNat from rfl, this]
        by_cases hr : 0 < rd
        · rw [if_pos ⟨rfl, hr⟩, if_pos hr]
        · rw [if_neg (fun h => hr h.2), if_neg hr]
      have e2 : ∃ v, (0 < rd → v = w) ∧ constN rd w 2 = { const0 rd w with f := setV (setV (Fx.new 2) 0 0 rd (w / 2048 * 2048)) 0 0 rd v, pc := 8 } := by
        refine ⟨orS (if 0 < rd then w / 2048 * 2048 else 0) (w % 2048), fun hr => ?_, ?_⟩
        · rw [if_pos hr, ← bits_or (by omega) (by omega) (by omega) (by omega), or_add 11 (by omega) (by omega) (by omega) (by omega) (by omega) (by omega)]
          omega
        · show stepM (constN rd w 1) 0 = _
          rw [e1]
          rw [step_code (m := { const0 rd w with f := setV (Fx.new 2) 0 0 rd (w / 2048 * 2048), pc := 4 }) (a := 4) rfl (by intro h; exact absurd (show (0 : Int) < 0 from h.2) (by decide)) rfl hc.2]
          show onM (setM { const0 rd w with f := setV (Fx.new 2) 0 0 rd (w / 2048 * 2048), pc := 4 } rd (orS (getM { const0 rd w with f := setV (Fx.new 2) 0 0 rd (w / 2048 * 2048), pc := 4 } rd) (u32 (w % 2048)))) = _
          rw [hg, show u32 (w % 2048) = w % 2048 from by unfold u32; omega]
          unfold onM setM
          rw [setM_V (m := { const0 rd w with f := setV (Fx.new 2) 0 0 rd (w / 2048 * 2048), pc := 4 }) rfl (by rw [setV_nw]; rfl) r0 r1]
          rfl
      obtain ⟨v, hv, e2⟩ := e2
      show (∀ k, k ≤ 2 → _) ∧ (constN rd w 2).pc = 4 * ((2 : Nat) : Int) ∧ (constN rd w 2).p = _ ∧ ∀ r, _ → getV (constN rd w 2).f 0 0 r = _
      rw [e2]
      refine ⟨fun k hk => ?_, rfl, rfl, fun r hr => ?_⟩
      · have : k = 0 ∨ k = 1 ∨ k = 2 := by omega
        rcases this with rfl | rfl | rfl
        · exact ⟨rfl, rfl⟩
        · rw [e1]; exact ⟨rfl, rfl⟩
        · rw [e2]; exact ⟨rfl, rfl⟩
      · show getV (setV (setV (Fx.new 2) 0 0 rd (w / 2048 * 2048)) 0 0 rd v) 0 0 r = _
        have hl := (LogOf.new 2).set new2_ok (ok2 (r := rd) ⟨r0, by omega⟩ _ rfl) (w / 2048 * 2048)
        rw [get_set2 _ _ hl (new2_ok.sV _ _ _ (by omega)) (by rw [setV_nw]; rfl) hr ⟨r0, by omega⟩, hset _ r hr]
        by_cases hr2 : r = rd ∧ 0 < r
        · rw [if_pos hr2, if_pos hr2, hv (by omega)]
        · rw [if_neg hr2, if_neg hr2, if_neg hr2]
end Go.Proofs.YtacfdddghdnboaaGreatDoor
/- The walk of muntinlaw07.AsmConst. -/
namespace Go.Proofs.YtacfdddghdnboaaGreatDoor
open Go.RowKit
set_option linter.unusedVariables false
set_option linter.unusedSimpArgs false
theorem own_off {w w' : World} {base : Nat} {v : Value} {l : List Int} (ho : w.ownsRow base 22 1 v l.length (u32s l)) (hw : Words l) (hb : Below w.heap.size w w') (S : Nat → Prop) (hS : ∀ k, k < w.heap.size → ¬ S k) : U32s S w' v l := by
  obtain ⟨hl, p, c, rfl, h2⟩ := Reads32.of_own ho
  refine ⟨hw, p, c, rfl, fun h0 => ?_⟩
  obtain ⟨b, o, rfl, h3⟩ := h2 h0
  have hlt : b < w.heap.size := World.block_lt_of_cell? _ _ (h3 0 h0)
  exact ⟨b, o, rfl, hS b hlt, Nat.lt_of_lt_of_le hlt hb.size, fun k hk => (hb.cell (p := ⟨b, o + k, none⟩) hlt).trans (h3 k hk)⟩
theorem words_puts : ∀ (l : List Ix) (i : Nat), wordsE [] i (l.map It.put) = 0 ∧ wordsL [] i (l.map It.put) = l.map encS
  | [], i => ⟨rfl, rfl⟩
  | x :: l, i => by
    obtain ⟨h1, h2⟩ := words_puts l (i + 1)
    simp only [List.map_cons, wordsE, wordsL, itE, itW, if_true, h1, h2]
    exact ⟨trivial, trivial⟩
theorem cfield_stop (a b : Value) (w : World) : (Instr.field 38 (.agg #[a, b]) 0).run Tryz.prog w = .ok a w := by kernel_rfl
set_option maxRecDepth 100000 in
set_option maxHeartbeats 8000000 in
theorem walk_AsmConst (rd : Int) (hr : 0 ≤ rd ∧ rd < 256) (n : Int) (hn : 0 ≤ n ∧ n < 4294967296) (w : World) (ht : Tab w) (hbr : Bru w) :
    Calls Tryz.prog 7 #[.int .u8 rd, .int .u32 n] w fun e w' => e = .returned (.bool true) ∧ Below w.heap.size w w' := by
  have HT := mhid ht
  have HR := mhid hbr
  have HHD := mhid (fun w' hb => ahead_any7 w' (ht.keep (w' := w') hb))
  clear ht hbr
  go_enter Tryz.func7, Tryz.ntmps7
  go_wp2_with fail
  refine (anew_any w).mono ?_
  rintro e w1 ⟨p, m, rfl, hp, hm, hA, hb1⟩
  have HA := mhid hA
  have HB := mhid hb1
  have HPM := mhid (And.intro hp hm)
  clear hA hb1 hp hm
  go_wp2_with fail
  refine (aconst_any w1 (HT.out.keep HB.out) p m _ _ _ _ HA.out rd n hr.1 hr.2 hn.1 hn.2 (by simp)).mono ?_
  rintro e w2 hput
  unfold PutOk at hput
  by_cases hrd : 31 < rd
  · rw [if_neg (parts_no hrd)] at hput
    obtain ⟨rfl, hb2⟩ := hput
    have HA := mhid (HA.out.keep (Only.of_below (S := fun _ => False) hb2) (fun _ _ h => h) (fun _ _ h => h))
    have HB := mhid (HB.out.trans (hb2.mono HB.out.size))
    clear hb2
    go_wp2_with fail
    refine (alen_made w2 p m _ _ _ _ HA.out).mono ?_
    rintro e w' ⟨rfl, rfl⟩
    go_wp2_with fail
    refine (HHD.out _ HB.out).mono ?_
    rintro e w3 ⟨rfl, hb3⟩
    go_wp2_with fail
    go_ret
    exact ⟨rfl, HB.out.trans (hb3.mono HB.out.size)⟩
  · have hmay := parts_may hr.1 (show rd ≤ 31 by omega) hn.1 hn.2
    rw [if_pos hmay] at hput
    obtain ⟨rfl, v', K2, hA, ho, -, -⟩ := hput
    have HA := mhid hA
    have HB := mhid (HB.out.trans (ho.below HB.out.size (fun k hk hC => by
      have h1 := HPM.out
      rcases hC with h2 | h2 | h2
      · omega
      · simp [Value.ownBlock] at h2
      · omega)))
    have HRU := mhid (const_run hr.1 (show rd ≤ 31 by omega) hn.1 hn.2)
    have HPL := mhid (parts_one_two rd n)
    clear hA ho hmay
    go_wp2_with fail
    refine (awords_any w2 (HT.out.keep HB.out) p m _ _ _ _ HA.out (by have := HPL.out; simp; omega) (fun nm t h => by simp [look] at h)).mono ?_
    rintro e w3 ⟨v, l, rfl, hl, hown, hb3⟩
    obtain ⟨hwe, hwl⟩ := words_puts (partsS rd n) 0
    rw [List.nil_append] at hl ⊢
    rw [hwe] at hl ⊢
    rw [if_pos rfl, hwl] at hl
    have hlen : l.length = (partsS rd n).length := by rw [hl]; simp
    have hww : Words l := by
      rw [hl]
      intro y hy
      obtain ⟨z, hz, rfl⟩ := List.mem_map.1 hy
      exact encS_bd (parts_bd hr.1 hr.2 hn.1 hn.2 z hz)
    have HB := mhid (HB.out.trans (hb3.mono HB.out.size))
    obtain ⟨pl, cl, rfl⟩ : ∃ p c, v = .slice p l.length c := by
      obtain ⟨-, p, c, e, -⟩ := Reads32.of_own hown; exact ⟨p, c, e⟩
    have HOW := mhid (And.intro hown (And.intro hww hl))
    have HLN := mhid hlen
    have hl1 : 1 ≤ l.length := by have := HPL.out; omega
    have hl2 : l.length ≤ 2 := by have := HPL.out; omega
    clear hown hww hl hlen hb3 hwe hwl
    go_wp2_with fail
    refine (mw_new 2 64 w3 w3 (Below.refl _ _) (by omega) (by omega) (by omega) (by omega)).mono ?_
    rintro e w4 ⟨M, G, rfl, hM, -, hb4⟩
    have HM := mhid hM
    clear hM
    have HUU := mhid (own_off HOW.out.1 HOW.out.2.1 hb4 (· = G.gB) (fun k hk e => by
      have := HM.out.lo k (by rw [show k = G.gB from e, HM.out.at'.rg]; simp)
      omega))
    clear hb4
    have q1 : ¬ ((l.length : Int) < 1) := by omega
    have q2 : ¬ ((l.length : Int) > 2) := by omega
    have q3 : ¬ (2 < (l.length : Int)) := by omega
    go_wp2_with fail
    refine (mw_load w3 w4 G M _ HM.out _ l (by unfold maxLen; omega) HUU.out).mono ?_
    rintro e w5 ⟨rfl, G5, hM, -⟩
    have hspan : spanE (newM 2 64).mem.length 0 l.length 4 = 0 := by
      show spanE 64 0 l.length 4 = 0
      unfold spanE; rw [if_neg (by omega), if_neg (by omega), if_neg (by omega)]
    have HM := mhid (show MIs w3 w5 G5 M (constN rd n 0) from by
      have e1 : constN rd n 0 = { newM 2 64 with mem := putV (newM 2 64).mem 0 l } := by rw [HOW.out.2.2]; rfl
      rw [e1]; exact hM)
    rw [hspan]
    clear hM hspan q1 q2 q3 HUU
    go_wp2_with fail
    have fs0 := cfield_stop
    go_loopw [11] (fun s wr => ∃ k : Nat, s = .int .i64 (k : Int) ∧ k ≤ l.length ∧ ∃ G, MIs w3 wr G M (constN rd n k)) (fun s _ => l.length - (intOf s).toNat)
    case atStart => exact ⟨0, rfl, by omega, G5, HM.out⟩
    case round =>
      obtain ⟨k, rfl, hk, G6, hM⟩ := hrel
      have HM := mhid hM
      clear hM
      have hk2 : k ≤ (partsS rd n).length := by rw [← HLN.out]; exact hk
      by_cases hlt : k < l.length
      · have c1 : (k : Int) < (l.length : Int) := by omega
        have hk3 : k + 1 ≤ (partsS rd n).length := by rw [← HLN.out]; exact hlt
        have c4 : IntKind.i64.wrap ((k : Int) + 1) = ((k + 1 : Nat) : Int) := by rw [IntWalk.i64_in _ (by omega)]; omega
        go_wp2_with fail
        have hs1 := mw_step w3 wr G6 M _ HM.out (HT.out.keep HB.out) (HR.out.keep HB.out) 0 (by omega) (by omega) (by rw [(HRU.out.1 k hk2).2]; decide)
        rw [show stepM (constN rd n k) 0 = constN rd n (k + 1) from rfl, (HRU.out.1 (k + 1) hk3).1] at hs1
        refine hs1.mono ?_
        rintro e w6 ⟨rfl, G7, hM, -⟩
        have HM := mhid hM
        clear hM hs1
        go_wp2_with fail
        exact ⟨⟨k + 1, by go_num, by omega, G7, HM.out⟩, by simp only [intOf]; omega⟩
      · have hke : k = (partsS rd n).length := by rw [← HLN.out]; omega
        have c1 : ¬ ((k : Int) < (l.length : Int)) := by omega
        have HKE := mhid hke
        clear hke
        go_wp2_with fail
        obtain ⟨w6, hw6⟩ : ∃ w6, w6 = wr := ⟨_, rfl⟩
        rw [← hw6]
        rw [← hw6] at HM
        clear hw6
        go_loopw [12] (fun s wr => ∃ j : Nat, s = .int .i64 (j : Int) ∧ j ≤ 32 ∧ MIs w3 wr G6 M (constN rd n k)) (fun s _ => 32 - (intOf s).toNat)
        case atStart => exact ⟨0, rfl, by omega, HM.out⟩
        case round =>
          obtain ⟨j, rfl, hj, hM⟩ := hrel
          have HM := mhid hM
          clear hM
          by_cases hlt2 : j < 32
          · have c2 : (j : Int) < 32 := by omega
            have c4 : IntKind.i64.wrap ((j : Int) + 1) = ((j + 1 : Nat) : Int) := by rw [IntWalk.i64_in _ (by omega)]; omega
            go_wp2_with fail
            refine (mfile_any wr G6 M _ HM.out.at').mono ?_
            rintro e w' ⟨rfl, rfl⟩
            go_wp2_with fail
            refine (fget_any wr G6.F G6.Wb G6.wc _ HM.out.at'.file 0 0 (j : Int)).mono ?_
            rintro e w7 ⟨rfl, n7, rfl⟩
            have HM := mhid (HM.out.drewN n7)
            rw [show getV (constN rd n k).f 0 0 (j : Int) = if (j : Int) = rd ∧ 0 < (j : Int) then n else 0 from by rw [HKE.out]; exact HRU.out.2.2.2 j ⟨by omega, by omega⟩]
            by_cases hjr : (j : Int) = rd
            · by_cases hj0 : 0 < j
              · have hjp : 0 < (j : Int) := by omega
                have hjp2 : (j : Int) > 0 := by omega
                have hnn : (n != n) = false := by simp
                rw [if_pos ⟨hjr, hjp⟩]
                have hjb : ((j : Int) == rd) = true := by rw [beq_iff_eq]; exact hjr
                go_wp2_with fail
                exact ⟨⟨j + 1, by go_num, by omega, HM.out⟩, by simp only [intOf]; omega⟩
              · have hj1 : ¬ ((j : Int) > 0) := by omega
                have hj2 : ¬ (0 < (j : Int)) := by omega
                rw [if_neg (fun h => hj2 h.2)]
                have hjb : ((j : Int) == rd) = true := by rw [beq_iff_eq]; exact hjr
                go_wp2_with fail
                exact ⟨⟨j + 1, by go_num, by omega, HM.out⟩, by simp only [intOf]; omega⟩
            · rw [if_neg (fun h => hjr h.1)]
              have hjb : ((j : Int) == rd) = false := by rw [beq_eq_false_iff_ne]; exact hjr
              go_wp2_with fail
              exact ⟨⟨j + 1, by go_num, by omega, HM.out⟩, by simp only [intOf]; omega⟩
          · have c2 : ¬ ((j : Int) < 32) := by omega
            have hpc : (constN rd n k).pc = 4 * (l.length : Int) := by rw [HKE.out, HRU.out.2.1, ← HLN.out]
            have hpp : (constN rd n k).p.agg = .agg #[.int .u8 0, .int .u8 0, .int .u8 0, .int .u8 0] := by rw [HKE.out, HRU.out.2.2.1]; rfl
            have u1 : IntKind.u32.wrap (l.length : Int) = (l.length : Int) := IntWalk.u32_in _ (by omega)
            have u2 : IntKind.u32.wrap (4 * (l.length : Int)) = 4 * (l.length : Int) := IntWalk.u32_in _ (by omega)
            go_wp2_with fail
            have hh := mpc_any wr G6 M _ HM.out.at'
            rw [hpc] at hh
            refine hh.mono ?_
            rintro e w' ⟨rfl, rfl⟩
            clear hh
            go_wp2_with fail
            have hh := mpsr_any wr G6 M _ HM.out.at'
            rw [hpp] at hh
            refine hh.mono ?_
            rintro e w8 ⟨rfl, hb8⟩
            have HM := mhid (HM.out.keepb hb8)
            clear hh hb8 hpc hpp
            go_wp2_with fail
            have hbb := HB.out.trans (HM.out.bel.mono HB.out.size)
            refine (HHD.out _ hbb).mono ?_
            rintro e w9 ⟨rfl, hb9⟩
            go_wp2_with fail
            go_ret
            exact ⟨rfl, hbb.trans (hb9.mono hbb.size)⟩
end Go.Proofs.YtacfdddghdnboaaGreatDoor
namespace Go.Proofs.YtacfdddghdnboaaGreatDoor.asmConstP
open Go.ChangeShapes Go.WideShapes Go.ChangeAt Go.RowKit
set_option linter.unusedVariables false
theorem own : ownKnob Tryz.prog.godebug = none := by kernel_rfl
theorem laidOut : laidOutB Tryz.prog = true := by kernel_rfl
theorem gTab : Tryz.prog.globalNamed "muntin/inst.fields" = some 1 := by kernel_rfl
theorem gTabType : (Tryz.prog.globals[1]?).map (·.type) = some 224 := by kernel_rfl
theorem cellsTab : Tryz.prog.cellsOf 224 = 38 := by kernel_rfl
theorem cellsU8 : Tryz.prog.cellsOf 5 = 1 := by kernel_rfl
theorem gBru : Tryz.prog.globalNamed "math/bits.deBruijn32tab" = some 0 := by kernel_rfl
theorem gBruType : (Tryz.prog.globals[0]?).map (·.type) = some 217 := by kernel_rfl
theorem cellsBru : Tryz.prog.cellsOf 217 = 32 := by kernel_rfl
theorem keepF : (Rows.asmConstRow.laid.filter fun e => e.1 == "muntin/inst.fields") = [("muntin/inst.fields", Lib.tabData .u8 [128, 7, 7, 7, 7, 7, 7, 7, 7, 7, 7, 7, 7, 7, 7, 25, 6, 25, 24, 7, 7, 7, 7, 7, 7, 7, 1, 6, 1, 6, 9, 10, 0, 8, 1, 2, 2, 8])] := by kernel_rfl
theorem keepB : (Rows.asmConstRow.laid.filter fun e => e.1 == "math/bits.deBruijn32tab") = [("math/bits.deBruijn32tab", Lib.tabData .u8 [0, 1, 28, 2, 29, 14, 24, 3, 30, 22, 20, 15, 25, 17, 4, 8, 31, 27, 13, 23, 21, 19, 16, 7, 26, 12, 18, 6, 11, 5, 10, 9])] := by kernel_rfl
/-- What the row's list gives: the tables' cells hold their numbers. -/
theorem table {W : World} (h : laidMetH Tryz.prog Rows.asmConstRow.laid W) : Lib.TabIs Tryz.prog W "muntin/inst.fields" .u8 [128, 7, 7, 7, 7, 7, 7, 7, 7, 7, 7, 7, 7, 7, 7, 25, 6, 25, 24, 7, 7, 7, 7, 7, 7, 7, 1, 6, 1, 6, 9, 10, 0, 8, 1, 2, 2, 8] := by
  have h1 := h.filter (fun e => e.1 == "muntin/inst.fields")
  rw [keepF] at h1
  exact Lib.tabIs_of_head (rest := []) gTab gTabType Tryz.underlying224 Tryz.underlying5 cellsU8 cellsTab h1
theorem tabW {W : World} (h : laidMetH Tryz.prog Rows.asmConstRow.laid W) : Tab W :=
  tab_of (fun i hi => (table h).cell gTab i hi)
theorem tableB {W : World} (h : laidMetH Tryz.prog Rows.asmConstRow.laid W) : Lib.TabIs Tryz.prog W "math/bits.deBruijn32tab" .u8 [0, 1, 28, 2, 29, 14, 24, 3, 30, 22, 20, 15, 25, 17, 4, 8, 31, 27, 13, 23, 21, 19, 16, 7, 26, 12, 18, 6, 11, 5, 10, 9] := by
  have h1 := h.filter (fun e => e.1 == "math/bits.deBruijn32tab")
  rw [keepB] at h1
  exact Lib.tabIs_of_head (rest := []) gBru gBruType Tryz.underlying217 Tryz.underlying5 cellsU8 cellsBru h1
theorem bruW {W : World} (h : laidMetH Tryz.prog Rows.asmConstRow.laid W) : Bru W :=
  bru_of (fun i hi => (tableB h).cell gBru i hi)
set_option maxRecDepth 100000 in
theorem contract (H : Type) (enc : TypeId × Value → H) (W : World) (base : Nat) (args : Array Value) (ds gs : List (DataW H)) (before : List MemPlace)
    (hval0 : ∀ (j : Nat) t v, Tryz.f7.params[j]? = some t → args[j]? = some v → Value.okWide Tryz.prog W .any base t v)
    (hW : DataW.Whole enc Tryz.prog Tryz.f7.params.toList Rows.asmConstSpec.vars false W args.toList ds gs before) (hL : laidMetH Tryz.prog Rows.asmConstRow.laid W) :
    Calls Tryz.prog 7 args W fun e W' => ∃ v, e = .returned v ∧ Rows.asmConstSpec.post enc Tryz.prog Tryz.f7 false true false false W args v W' := by
  have hval : ∀ (j : Nat) t v, Tryz.f7.params[j]? = some t → args[j]? = some v → Value.okWide Tryz.prog W .any base t v := hval0
  have ht := tabW hL
  have hbr := bruW hL
  have hW' := hW
  obtain ⟨p, q, hA0, hV, rfl, hfz, hnd⟩ := hW
  have hA : DataW.TrodAll enc Tryz.prog W 0 (fun _ => true) true Tryz.f7.params.toList args.toList ds p := hA0
  rw [Tryz.params7] at hA hval
  obtain ⟨v0, vs0, d0, ds0, p0, q0, hargs, rfl, rfl, h0, r0⟩ := trodAll_cons hA
  obtain ⟨v1, vs1, d1, ds1, p1, q1, rfl, rfl, rfl, h1, r1⟩ := trodAll_cons r0
  obtain ⟨rfl, rfl, rfl⟩ := trodAll_nil r1
  obtain rfl : args = #[v0, v1] := by cases args; simp_all
  obtain ⟨rfl, rfl⟩ := trodVars_none hV
  obtain ⟨a0, rfl, rfl, rfl, w0⟩ := open_int Tryz.underlying5 (hval 0 5 v0 rfl rfl) h0
  have bd0 := bounds_u8 w0
  obtain ⟨a1, rfl, rfl, rfl, w1⟩ := open_int Tryz.underlying22 (hval 1 22 v1 rfl rfl) h1
  have bd1 := bounds_u32 w1
  clear hA0 hval0
  refine (walk_AsmConst a0 (by omega) a1 (by omega) W ht hbr).mono fun e W' ⟨he, bel⟩ => ?_
  subst he
  exact ⟨_, rfl, _, _, _, [], _, [], hW', trodAll_mk1 (shut_bool Tryz.underlying4 _), (trodAll_cons_mk (shut_int Tryz.underlying5 w0) (trodAll_cons_mk (shut_int Tryz.underlying22 w1) trodAll_mk0)), rfl, bel.frame _, fun h => by cases h⟩
def lay0 : Obj → Obj
  | .cells _ t frozen => .cells #[.int .u8 0, .int .u8 1, .int .u8 28, .int .u8 2, .int .u8 29, .int .u8 14, .int .u8 24, .int .u8 3, .int .u8 30, .int .u8 22, .int .u8 20, .int .u8 15, .int .u8 25, .int .u8 17, .int .u8 4, .int .u8 8, .int .u8 31, .int .u8 27, .int .u8 13, .int .u8 23, .int .u8 21, .int .u8 19, .int .u8 16, .int .u8 7, .int .u8 26, .int .u8 12, .int .u8 18, .int .u8 6, .int .u8 11, .int .u8 5, .int .u8 10, .int .u8 9] t frozen
  | o => o
def lay1 : Obj → Obj
  | .cells _ t frozen => .cells #[.int .u8 128, .int .u8 7, .int .u8 7, .int .u8 7, .int .u8 7, .int .u8 7, .int .u8 7, .int .u8 7, .int .u8 7, .int .u8 7, .int .u8 7, .int .u8 7, .int .u8 7, .int .u8 7, .int .u8 7, .int .u8 25, .int .u8 6, .int .u8 25, .int .u8 24, .int .u8 7, .int .u8 7, .int .u8 7, .int .u8 7, .int .u8 7, .int .u8 7, .int .u8 7, .int .u8 1, .int .u8 6, .int .u8 1, .int .u8 6, .int .u8 9, .int .u8 10, .int .u8 0, .int .u8 8, .int .u8 1, .int .u8 2, .int .u8 2, .int .u8 8] t frozen
  | o => o
/-- A world for the witness: the settled one, the two tables holding what their initialisers lay. -/
noncomputable def laidWorld (os : Os) : World :=
  { World.holding Tryz.prog os ⟨#[], #[], []⟩ with heap := (((World.holding Tryz.prog os ⟨#[], #[], []⟩).heap.modify 0 lay0).modify 1 lay1) }
theorem laid_met (os : Os) : laidMet Tryz.prog Rows.asmConstRow.laid ((laidWorld os).forCall (fun _ _ => 0) ⟨#[], #[.int .u8 0, .int .u32 0], []⟩).memory :=
  laidMet_of_run' 8 (by kernel_rfl) (by kernel_rfl)
theorem reads (os : Os) {H : Type} (enc : TypeId × Value → H) : ∃ places, DataW.whole enc Tryz.prog ((laidWorld os).forCall (fun _ _ => 0) ⟨#[], #[.int .u8 0, .int .u32 0], []⟩).memory Tryz.f7.params.toList Rows.asmConstSpec.vars false (#[.int .u8 0, .int .u32 0] : Array Value).toList 8 = some ([.lit (.int .u8 0), .lit (.int .u32 0)], [], places) :=
  ⟨[], by kernel_rfl⟩
set_option maxRecDepth 100000 in
theorem lifted (os : Os) (started : os.Started) (H : Type) (enc : TypeId × Value → H) (F : Stop.Interp) :
    ReturnsInHanded {} Tryz.checked os 7 .any ((OpenSpec.ofChange Rows.asmConstSpec).preRow enc Tryz.prog Tryz.f7 Rows.asmConstRow.domain false Rows.asmConstRow.laid) (((OpenSpec.ofChange Rows.asmConstSpec).at F).post enc Tryz.prog Tryz.f7 false true false false) := by
  obtain ⟨places, hx⟩ := reads os enc
  refine returnsInHanded_of_row (C := Tryz.checked) (s := OpenSpec.ofChange Rows.asmConstSpec) own started (by kernel_rfl) Tryz.func7
    (witness_row_at (enc := enc) (C := Tryz.checked) false (laidWorld os) #[.int .u8 0, .int .u32 0] rfl (by kernel_rfl) (by kernel_rfl) (by kernel_rfl)
      (OpenSpec.preRow_of_cond 8 hx (by kernel_rfl) (fun k hk => by cases hk) (by kernel_rfl) (laid_met os))) ?_
  intro W base args ds gs before hval hW _ _ _ hL _ _
  exact contract H enc W base args ds gs before hval hW hL
theorem said : Rows.AsmConstSaid :=
  OpenClaim.holds_of_cond 7 Tryz.f7 rfl rfl rfl rfl rfl rfl rfl ⟨rfl, rfl, rfl, rfl, rfl⟩ rfl rfl rfl rfl rfl (by kernel_rfl) Tryz.func7 (by kernel_rfl)
    (of_decide_eq_true (by kernel_rfl)) (by unfold Func.isWrapper; first | (rw [if_pos (by decide +kernel)]; kernel_rfl) | (rw [if_neg (by decide +kernel)]; exact ⟨rfl, rfl⟩))
    (fun os started H enc _ F => by rw [OpenClaim.pre_eq_preRow]; exact lifted os started H enc F)
theorem plain (f : FuncId) (fn : Func) (hf : Tryz.pinned.checked.prog.funcNamed "muntin/muntinlaw07.AsmConst" = some f) (hfn : Tryz.pinned.checked.prog.funcs[f]? = some fn) :
    false = Tryz.pinned.checked.prog.looks [] ∧ ∀ (j : Nat) t, fn.params[j]? = some t → Tryz.pinned.checked.prog.wantsStandIn t = false := by
  obtain rfl : f = 7 := Option.some.inj ((show Tryz.prog.funcNamed "muntin/muntinlaw07.AsmConst" = some 7 by kernel_rfl).symm.trans hf) |>.symm
  obtain rfl : fn = Tryz.f7 := (Option.some.inj (Tryz.func7.symm.trans hfn)).symm
  refine ⟨by kernel_rfl, fun j t ht => ?_⟩
  have hall : (Tryz.f7.params.toList.all fun u => !Tryz.prog.wantsStandIn u) = true := by kernel_rfl
  have hm : t ∈ Tryz.f7.params.toList := by simpa using Array.mem_of_getElem? ht
  exact (show Tryz.prog.wantsStandIn t = false by simpa using List.all_eq_true.1 hall t hm)
/-- The statement. -/
theorem proved : Rows.AsmConstCardSaid :=
  Claim7.holds_tied_plain_at .later [] _ _ _ _ said (fun _ h => by cases h) (by kernel_rfl) (fun _ h => by cases h) asmConst_row_tie rfl ⟨rfl, rfl⟩ (by kernel_rfl) rfl plain (by kernel_rfl)
end Go.Proofs.YtacfdddghdnboaaGreatDoor.asmConstP
