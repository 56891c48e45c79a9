/- Several texts in one: ShapeSure, ShapeLacks, ShapeMissing. -/
import Derived.Test.YtdefooailcbnlaaG09
import Derived.Deep.LoopGhost
import Derived.Deep.OwnRows
import Derived.Deep.RegionHeld3
import Derived.Outline
/- The walk of shape.sure. -/
namespace Go.Proofs.Ytdefooailcbnlaa
open Go.RowKit Go.Deep
set_option linter.unusedVariables false
set_option linter.unusedSimpArgs false
def firstL (R k : Nat) : List Bool := (List.range R).map fun i => decide (i < k)
theorem firstL_length (R k : Nat) : (firstL R k).length = R := by simp [firstL]
theorem firstL_get {R k i : Nat} (h : i < R) : (firstL R k)[i]? = some (decide (i < k)) := by simp [firstL, h]
theorem firstL_succ (R k : Nat) (h : k < R) : (firstL R k).set k true = firstL R (k + 1) := by
  apply List.ext_getElem?
  intro i
  rcases Nat.lt_or_ge i R with hi | hi
  · rw [firstL_get hi]
    by_cases e : k = i
    · subst e; rw [List.getElem?_set_self (by rw [firstL_length]; exact h)]; simp
    · rw [List.getElem?_set_ne e, firstL_get hi]
      congr 1
      simp only [decide_eq_decide]; omega
  · rw [List.getElem?_eq_none (by simp [firstL_length]; exact hi), List.getElem?_eq_none (by rw [firstL_length]; exact hi)]
theorem VRow.of_rowIs {w : World} {g n : Nat} {t : TypeId} {f : Nat → Value} (h : w.rowIs g t n f) : VRow w g t ((List.range n).map f) := by
  obtain ⟨cur, hb, hn, hc⟩ := h
  refine ⟨cur, hb, fun k x hx => ?_⟩
  rw [List.getElem?_map] at hx
  rcases Nat.lt_or_ge k n with h | h
  · rw [List.getElem?_range h] at hx
    cases hx
    exact hc k h
  · rw [List.getElem?_eq_none (by simpa using h)] at hx; cases hx
/-- What sure wants of the blocks of a function. -/
structure BlksOk (R : Nat) (bs : List Blk) : Prop where
  some : 0 < bs.length
  ins : ∀ i, i < bs.length → 0 < (insAt bs i).length
  names : ∀ i, NamesOk R (insAt bs i)
  to : ∀ i, ∀ k ∈ goesOf bs i, 0 ≤ k ∧ k < bs.length
theorem BlksOk.flow {R : Nat} {bs : List Blk} (h : BlksOk R bs) : Flow bs :=
  ⟨fun i k hk => by have := h.to i k hk; omega, fun i x hx hw => ((h.names i x hx).2 hw).1⟩
theorem FBox.only {O : Nat → Prop} {w w' : World} {g : Nat} {nm : ByteArray} {a r : Int} {bv : Value} (k : FBox w g nm a r bv) (o : Only O w w') (hs : ¬ O g) : FBox w' g nm a r bv :=
  ⟨Nat.lt_of_lt_of_le k.lt o.size, (o.cell (p := ⟨g, 0, none⟩) k.lt hs).trans k.c0, (o.cell (p := ⟨g, 1, none⟩) k.lt hs).trans k.c1, (o.cell (p := ⟨g, 2, none⟩) k.lt hs).trans k.c2, (o.cell (p := ⟨g, 3, none⟩) k.lt hs).trans k.c3⟩
theorem VRow.new (w : World) (cs : Array Value) (t : TypeId) (vs : List Value) (h : ∀ (k : Nat) x, vs[k]? = some x → cs[k]? = some x) : VRow (w.alloc (.cells cs t)) w.heap.size t vs :=
  ⟨cs, heap_alloc_new w _, h⟩
theorem VRow.keepOnly {O : Nat → Prop} {w w' : World} {g : Nat} {t : TypeId} {vs : List Value} (h : VRow w g t vs) (o : Only O w w') (hs : ¬ O g) : VRow w' g t vs := h.of_block (o.block g h.lt hs)
def sets0 (n : Nat) (l : List Bool) : Sets := (List.replicate n none).set 0 (some l)
theorem sets0_get {n i : Nat} {l m : List Bool} (hn : 0 < n) : (sets0 n l)[i]? = some (some m) → i = 0 ∧ m = l := by
  intro h
  unfold sets0 at h
  by_cases e : 0 = i
  · subst e
    rw [List.getElem?_set_self (by simpa using hn)] at h
    cases h; exact ⟨rfl, rfl⟩
  · rw [List.getElem?_set_ne e, List.getElem?_replicate] at h
    split at h <;> simp at h
theorem sets_first (W : World) (B g0 R n : Nat) (l : List Bool) (hn : 0 < n) (hl : l.length = R) (hrow : VRow W g0 4 (bools l)) (hg : B ≤ g0) :
    SetsAt (W.alloc (.cells ((madeCells #[.slice none 0 0] n).setIfInBounds 0 (.slice (some ⟨g0, 0, none⟩) R R)) 98)) B W.heap.size ((List.replicate n (.slice none 0 0)).set 0 (.slice (some ⟨g0, 0, none⟩) R R)) (sets0 n l) R (fun _ => g0) (fun _ => True) := by
  have hlt := hrow.lt
  refine ⟨by simp [sets0], VRow.new _ _ _ _ fun k x hx => ?_, ⟨by omega, trivial⟩, fun i hi => ?_, fun i m hm => ?_, fun i j a b hij ha hb => ?_⟩
  · rw [Array.getElem?_setIfInBounds]
    by_cases e : 0 = k
    · subst e
      rw [List.getElem?_set_self (by simpa using hn)] at hx
      rw [if_pos rfl]; simp [size_madeCells, hn, hx]
    · rw [if_neg e]
      rw [List.getElem?_set_ne e, List.getElem?_replicate] at hx
      split at hx
      · rename_i hk
        rw [← hx]
        simp [madeCells, hk, Nat.mod_one]
      · cases hx
  · unfold sets0 at hi
    by_cases e : 0 = i
    · subst e
      rw [List.getElem?_set_self (by simpa using hn)] at hi; cases hi
    · rw [List.getElem?_set_ne e, List.getElem?_replicate] at hi ⊢
      split at hi
      · rename_i h; rw [if_pos h]
      · cases hi
  · obtain ⟨rfl, rfl⟩ := sets0_get hn hm
    exact ⟨hl, ⟨R, List.getElem?_set_self (by simpa using hn)⟩, hrow.alloc _, hg, by omega, trivial⟩
  · obtain ⟨rfl, _⟩ := sets0_get hn ha
    obtain ⟨rfl, _⟩ := sets0_get hn hb
    exact absurd rfl hij
theorem inv_first (bs : List Blk) (A R : Nat) (h : 0 < bs.length) : Inv bs A R (sets0 bs.length (firstL R A)) := by
  refine ⟨by simp [sets0], fun i l hl => ?_, firstL R A, by unfold sets0; rw [List.getElem?_set_self (by simpa using h)], fun r hr hR => ?_⟩
  · obtain ⟨rfl, rfl⟩ := sets0_get h hl
    refine ⟨firstL_length _ _, fun r hr => ?_⟩
    have hrR : r < R := by have := (List.getElem?_eq_some_iff.1 hr).1; rwa [firstL_length] at this
    rw [firstL_get hrR] at hr
    refine .start ?_
    simp at hr; omega
  · rw [firstL_get hR]; simp; omega
theorem infoset : (Try.prog.info? 98).map (fun i => (i.zero, i.size, i.bytes)) = some (some (.slice none 0 0), 1, 24) := by kernel_rfl
theorem meetS_length (S : Sets) (k : Nat) (b : List Bool) : (meetS S k b).1.length = S.length := by
  unfold meetS; split <;> simp
theorem edges_length (b : List Bool) : ∀ (ks : List Int) (st : Sets × Bool), (ks.foldl (edgeS b) st).1.length = st.1.length
  | [], _ => rfl
  | k :: ks, st => by
    rw [List.foldl_cons, edges_length b ks]
    exact meetS_length _ _ _
set_option maxRecDepth 100000 in
set_option maxHeartbeats 8000000 in
theorem sure_any (nm : ByteArray) (A R : Nat) (hAR : A ≤ R) (hR : R ≤ 4096) (bs : List Blk) (hbk : BlksOk R bs) (pb : Option Addr) (cb : Nat) (w : World) (hB : BlksIn w (.slice pb bs.length cb) bs) :
    Calls Try.prog 36 #[.agg #[.string nm, .int .i64 A, .int .i64 R, .slice pb bs.length cb]] w fun e w' => ∃ vs S gs Bo c, e = .returned (.slice (some ⟨Bo, 0, none⟩) bs.length c) ∧ SetsAt w' (w.heap.size + 1) Bo vs S R gs (fun _ => True) ∧ Final bs A R S ∧ Below w.heap.size w w' := by
  have hbl := hB.1
  have q22 : ∀ (w : World) (a : Option Addr) (n c n' c' : Nat), (binOp .eql 98 (.slice a n c) (.slice none n' c')).run Try.prog w = .ok (.bool a.isNone) w := fun w a n c n' c' => Lib.run_eql_slice_nil w _ _ a n c n' c' Try.underlying98
  have hmk1 := run_make_row' (P := Try.prog) 98 4 (.bool false) 1 Try.underlying98 infobool rfl .i64 .i64 R (by omega) (by omega)
  have hmk2 := run_make_row' (P := Try.prog) 95 98 (.slice none 0 0) 24 Try.underlying95 infoset rfl .i64 .i64 bs.length (by omega) (by omega)
  have HBN := shid hB
  have HBK := shid hbk
  obtain ⟨_, _, b, o, hbe, _, HBS⟩ := hB.hids
  cases hbe
  obtain rfl := HBS.out.1 hbk.some
  have HFB := shid (FBox.new w nm A R (.slice (some ⟨b, o, none⟩) bs.length cb) 41)
  have HW0 := shid (al1 w (.cells #[.string nm, .int .i64 A, .int .i64 R, .slice (some ⟨b, o, none⟩) bs.length cb] 41))
  have HKB := shid (fun (W : World) (hb : Below w.heap.size w W) (k : Nat) (x : Blk) (hk : bs[k]? = some x) => (HBS.out.2 k x hk).keep hb)
  have h0 : (0 : Int) < bs.length := by have := hbk.some; omega
  clear hB HBS hbk
  go_enter Try.func36, Try.ntmps36
  go_wp2_with fail
  have HR0 := shid (show VRow ((w.alloc (.cells #[.string nm, .int .i64 A, .int .i64 R, .slice (some ⟨b, o, none⟩) bs.length cb] 41)).alloc (.cells (madeCells #[.bool false] R) 4)) (w.heap.size + 1) 4 (bools (firstL R 0)) by
    have h := VRow.of_rowIs (World.rowIs_made (w.alloc (.cells #[.string nm, .int .i64 A, .int .i64 R, .slice (some ⟨b, o, none⟩) bs.length cb] 41)) (.bool false) R 4)
    rw [World.size_alloc] at h
    have e : bools (firstL R 0) = (List.range R).map fun _ => .bool false := by simp [bools, firstL]
    rw [e]; exact h)
  have HW1 := shid (al1 (w.alloc (.cells #[.string nm, .int .i64 A, .int .i64 R, .slice (some ⟨b, o, none⟩) bs.length cb] 41)) (.cells (madeCells #[.bool false] R) 4))
  have HFB1 := shid (HFB.out.keep HW1.out)
  have HW2 := shid (sbt HW0.out HW1.out)
  clear HFB HW0 HW1
  generalize (w.alloc (.cells #[.string nm, .int .i64 A, .int .i64 R, .slice (some ⟨b, o, none⟩) bs.length cb] 41)).alloc (.cells (madeCells #[.bool false] R) 4) = W1 at *
  go_loopw [18] (fun i wr => ∃ k : Nat, k ≤ A ∧ i = .int .i64 k ∧ VRow wr (w.heap.size + 1) 4 (bools (firstL R k)) ∧ FBox wr w.heap.size nm A R (.slice (some ⟨b, o, none⟩) bs.length cb) ∧ Below w.heap.size w wr) (fun i _ => A - (intOf i).toNat)
  case atStart => exact ⟨0, Nat.zero_le _, rfl, HR0.out, HFB1.out, HW2.out⟩
  case round =>
    obtain ⟨k, hk, rfl, hv, hf, hbw⟩ := hrel
    have HV := shid hv
    have HFB := shid hf
    have HBW := shid hbw
    clear hv hf hbw HR0 HFB1 HW2
    by_cases hlt : k < A
    · have hkR : (k : Int) < R := by omega
      have f0 := HV.out.frozen k
      have e0 := HV.out.cell (bools_get (firstL_get (k := k) (show k < R by omega)))
      have HV2 := shid (show VRow (wr.setCell ⟨w.heap.size + 1, k, none⟩ (.bool true)) (w.heap.size + 1) 4 (bools (firstL R (k + 1))) by
        have h := HV.out.set (k := k) (by rw [bools_length, firstL_length]; omega) (.bool true)
        rw [bools_set, firstL_succ _ _ (by omega)] at h
        exact h)
      have HFB2 := shid (HFB.out.far (p := ⟨w.heap.size + 1, k, none⟩) (by show w.heap.size + 1 ≠ w.heap.size; omega) (.bool true))
      have HBW2 := shid (HBW.out.setCell (p := ⟨w.heap.size + 1, k, none⟩) (by show w.heap.size ≤ w.heap.size + 1; omega) (.bool true))
      go_wp2_with fail
      go_roundw
      case rel => exact ⟨k + 1, by omega, by go_num, HV2.out, HFB2.out, HBW2.out⟩
      case measure => simp [intOf]; omega
    · obtain rfl : k = A := by omega
      clear hlt hk
      obtain ⟨_, p0, p1, p2, p3⟩ := HFB.out
      have HSA := shid (sets_first wr (w.heap.size + 1) (w.heap.size + 1) R bs.length (firstL R k) HBK.out.some (firstL_length _ _) HV.out (Nat.le_refl _))
      have HFB2 := shid (HFB.out.keep (al1 wr (.cells ((madeCells #[.slice none 0 0] bs.length).setIfInBounds 0 (.slice (some ⟨w.heap.size + 1, 0, none⟩) R R)) 98)))
      have HBW2 := shid (sbt HBW.out (al1 wr (.cells ((madeCells #[.slice none 0 0] bs.length).setIfInBounds 0 (.slice (some ⟨w.heap.size + 1, 0, none⟩) R R)) 98)))
      have hc0 : (madeCells #[Value.slice none 0 0] bs.length)[0]? = some (.slice none 0 0) := by have := HBK.out.some; simp [madeCells, this]
      have HIN := shid (inv_first bs k R HBK.out.some)
      go_wp2_with fail
      clear p0 p1 p2 p3 hc0
      generalize wr.alloc (.cells ((madeCells #[.slice none 0 0] bs.length).setIfInBounds 0 (.slice (some ⟨w.heap.size + 1, 0, none⟩) R R)) 98) = W2 at *
      generalize wr.heap.size = Bo at *
      go_loopg [] (mu R (sets0 bs.length (firstL R k))) (fun n wr => ∃ vs S gs, SetsAt wr (w.heap.size + 1) Bo vs S R gs (fun _ => True) ∧ Inv bs k R S ∧ mu R S ≤ n ∧ FBox wr w.heap.size nm k R (.slice (some ⟨b, o, none⟩) bs.length cb) ∧ Below w.heap.size w wr)
      case atStart => exact ⟨_, _, _, HSA.out, HIN.out, Nat.le_refl _, HFB2.out, HBW2.out⟩
      case round =>
        obtain ⟨vs, S, gs, hs, hi, hm, hf, hb⟩ := hrel
        have HS := shid hs
        have HI := shid hi
        have HM := shid hm
        have HF := shid hf
        have HB := shid hb
        clear hs hi hm hf hb HSA HFB2 HBW2 HIN HFB HBW
        obtain ⟨_, p0, p1, p2, p3⟩ := HF.out
        go_wp2_with fail
        go_step3
        go_wp2_with fail
        go_step3
        go_wp2_with fail
        clear p0 p1 p2 p3
        have HSW := shid (sweep_ok bs k R HBK.out.flow S HI.out)
        obtain ⟨W3, hw3⟩ : ∃ W3, W3 = wr := ⟨wr, rfl⟩
        subst hw3
        obtain ⟨n3, hn3⟩ : ∃ n3, n3 = gk := ⟨gk, rfl⟩
        subst hn3
        go_loopg [6, 35] bs.length (fun n lv i wr => ∃ q : Nat, q + n = bs.length ∧ i = .int .i64 q ∧ lv = .bool (sweepS bs S q).2 ∧ (∃ vs gs, SetsAt wr (w.heap.size + 1) Bo vs (sweepS bs S q).1 R gs (fun _ => True)) ∧ FBox wr w.heap.size nm k R (.slice (some ⟨b, o, none⟩) bs.length cb) ∧ Below w.heap.size w wr)
        case atStart => exact ⟨0, by omega, rfl, rfl, ⟨vs, gs, HS.out⟩, HF.out, HB.out⟩
        case round =>
          obtain ⟨q, hq, rfl, rfl, ⟨vs1, gs1, hs1⟩, hf1, hb1⟩ := hrel
          have HS1 := shid hs1
          have HF1 := shid hf1
          have HB1 := shid hb1
          clear hs1 hf1 hb1 HS HF HB
          by_cases hlt : q < bs.length
          · have HX := shid (List.getElem?_eq_getElem hlt)
            generalize bs[q] = x at HX
            obtain ⟨c0, ⟨iv, c1, hiv⟩, hnm⟩ := HKB.out wr HB1.out q x HX.out
            have HIV := shid hiv
            obtain ⟨pi, ci, ib, io, rfl, hil, HIS⟩ := hiv.hids
            have HIA := shid (show insAt bs q = x.ins by unfold insAt; rw [HX.out]; rfl)
            have HSQ := shid (show sweepS bs S (q + 1) = stepS bs (sweepS bs S q) q by unfold sweepS; rw [List.range_succ, List.foldl_append]; rfl)
            have HIQ := shid (HSW.out q).1
            generalize sweepS bs S q = st at *
            obtain ⟨S1, lo⟩ := st
            have HSL := shid (show S1.length = bs.length from HIQ.out.len)
            obtain ⟨so, hso⟩ : ∃ so, S1[q]? = some so := ⟨_, List.getElem?_eq_getElem (by rw [HSL.out]; exact hlt)⟩
            have HSO := shid hso
            have h2 : (q : Int) < bs.length := by omega
            have hBo := HS1.out.row.lt
            obtain ⟨_, p0, p1, p2, p3⟩ := HF1.out
            have HB8 := shid (BBox.new wr x.name (.slice pi x.ins.length ci) 46)
            have HW8 := shid (al1 wr (.cells #[.string x.name, .slice pi x.ins.length ci] 46))
            have HF8 := shid (HF1.out.keep HW8.out)
            have HS8 := shid (HS1.out.below HW8.out)
            have HWB := shid (sbt HB1.out HW8.out)
            clear hiv hnm hso HF1
            cases so with
            | none =>
              have e0 := HS1.out.row.cell (HS1.out.nil q HSO.out)
              have HST := shid (show sweepS bs S (q + 1) = (S1, lo) by rw [HSQ.out]; unfold stepS; rw [HSO.out])
              go_wp2_with fail
              go_roundg (bs.length - (q + 1))
              case measure => omega
              case rel => exact ⟨q + 1, by omega, by go_num, by rw [HST.out], by rw [HST.out]; exact ⟨vs1, gs1, HS8.out⟩, HF8.out, HWB.out⟩
            | some l =>
              obtain ⟨cq, hcq⟩ := (HS1.out.set q l HSO.out).2.1
              have HCQ := shid hcq
              have e0 := HS1.out.row.cell hcq
              have HLR := shid (show l.length = R from (HS1.out.set q l HSO.out).1)
              have HST := shid (show sweepS bs S (q + 1) = (goesOf bs q).foldl (edgeS (thru x.ins l)) (S1, lo) by rw [HSQ.out]; unfold stepS; rw [HSO.out, HIA.out])
              clear hcq
              go_wp2_with fail
              clear p0 p1 p2 p3 c0 c1
              have HTH := shid (fun (W : World) (hb : Below (wr.alloc (.cells #[.string x.name, .slice pi x.ins.length ci] 46)).heap.size (wr.alloc (.cells #[.string x.name, .slice pi x.ins.length ci] 46)) W) => through_any x.name x.ins pi ci l (by rw [HLR.out]; exact hR) (by rw [HLR.out, ← HIA.out]; exact HBK.out.names q) (.slice (some ⟨gs1 q, 0, none⟩) R cq) (gs1 q) W (InsxIn.keep HIV.out (sbt HW8.out hb)) ⟨⟨cq, by rw [HLR.out]⟩, ((HS8.out.set q l HSO.out).2.2.1).below hb⟩)
              have HKI := shid (fun (W : World) (hb : Below (wr.alloc (.cells #[.string x.name, .slice pi x.ins.length ci] 46)).heap.size (wr.alloc (.cells #[.string x.name, .slice pi x.ins.length ci] 46)) W) (j : Nat) (y : Insx) (hy : x.ins[j]? = some y) => (HIS.out.2 j y hy).keep (sbt HW8.out hb))
              have hBo8 := HS8.out.row.lt
              have HOL := shid (fun x => HS8.out.own_lt (x := x))
              have HE8 := shid (HS8.out.row.cell HCQ.out)
              generalize wr.alloc (.cells #[.string x.name, .slice pi x.ins.length ci] 46) = W8 at *
              generalize wr.heap.size = G8 at *
              have HKS : Hid (∀ w', Below W8.heap.size W8 w' → w'.cell? ⟨G8, 0, none⟩ = some (.string x.name) ∧ w'.cell? ⟨G8, 1, none⟩ = some (.slice pi x.ins.length ci) ∧ w'.cell? ⟨Bo, q, none⟩ = some (.slice (some ⟨gs1 q, 0, none⟩) R cq)) := shid fun w' hb => by
                obtain ⟨_, b0, b1⟩ := HB8.out.keep hb
                exact ⟨b0, b1, (hb.cell (p := ⟨Bo, q, none⟩) hBo8).trans HE8.out⟩
              have hle : W8.heap.size ≤ W8.heap.size := Nat.le_refl _
              have hbd : Below W8.heap.size W8 W8.drew := (Below.refl _ _).drew
              go_region_held3 (fun w' => w'.cell? ⟨G8, 0, none⟩ = some (.string x.name) ∧ w'.cell? ⟨G8, 1, none⟩ = some (.slice pi x.ins.length ci) ∧ w'.cell? ⟨Bo, q, none⟩ = some (.slice (some ⟨gs1 q, 0, none⟩) R cq)) (first | (with_reducible exact HKS.out _ hbd) | (with_reducible exact HKS.out _ hb4))
                (first
                  | (go_at_call 37; (with_reducible refine (HTH.out _ hbd).mono ?_); rintro e w4 ⟨v4, g4, rfl, hg4, hs4, hb40⟩; have hb4 : Below W8.heap.size W8 w4 := sbt hbd hb40))
              have HG4 := shid (show W8.heap.size ≤ g4 from Nat.le_trans hbd.size hg4)
              have HS4 := shid hs4
              have HB4 := shid hb4
              have HBX := shid (HB8.out.keep hb4)
              have HF4 := shid (HF8.out.keep hb4)
              have HT4 := shid (HS8.out.below hb4)
              obtain ⟨⟨c4, rfl⟩, _⟩ := hs4
              clear hg4 hb40 hbd hle HTH HKS HB8
              obtain ⟨m, hm⟩ : ∃ m, x.ins.length = m + 1 := ⟨x.ins.length - 1, by have := HBK.out.ins q hlt; rw [HIA.out] at this; omega⟩
              have hm1 : (x.ins.length : Int) - 1 = m := by omega
              have hm2 : m < x.ins.length := by omega
              have hm3 : (m : Int) < x.ins.length := by omega
              have HMM := shid hm
              have HY := shid (List.getElem?_eq_getElem hm2)
              generalize x.ins[m] = y at HY
              obtain rfl := HIS.out.1 (by omega)
              obtain ⟨d0, d1, d2, d3, d4, d5, ⟨va, d6, hva⟩, d7, d8, hybd⟩ := HKI.out _ HB4.out m y HY.out
              obtain ⟨pa, ca, rfl⟩ := hva.shape
              obtain ⟨_, b0, b1⟩ := HBX.out
              have HGO := shid (fun W => goes_any y (.slice pa y.args.length ca) pa y.args.length ca rfl W)
              unfold Insx.agg at HGO
              have HKS := shid (show goesOf bs q = goesS y by unfold goesOf; rw [HIA.out, show x.ins.length - 1 = m by have := HMM.out; omega, HY.out]; rfl)
              clear hm hva hybd
              go_wp2_with fail
              refine (HGO.out _).mono ?_
              rintro e W5 ⟨v5, rfl, ho5, hb5⟩
              have HB5 := shid hb5
              obtain ⟨p5, c5, rfl, hs5⟩ := own_shape ho5
              obtain ⟨g5, hp5, hc5⟩ := own_cells ho5 rfl
              have HP5 := shid hp5
              have HC5 := shid hc5
              have HT5 := shid (HT4.out.below hb5)
              have HF5 := shid (HF4.out.keep hb5)
              have HS5 := shid (HS4.out.below hb5)
              have hB5 := hb5.size
              have hg4l := HS4.out.lt
              have hB48 := HB4.out.size
              obtain ⟨O4, hO4⟩ : ∃ O : Nat → Prop, ∀ x, O x ↔ (x = Bo ∨ ∃ (i : Nat) (l : List Bool), S1[i]? = some (some l) ∧ gs1 i = x) ∨ W5.heap.size ≤ x := ⟨_, fun _ => Iff.rfl⟩
              have HN4 := shid (show ¬ O4 g4 from fun h => by
                have h1 := HG4.out
                rcases (hO4 _).1 h with h | h
                · have := (HOL.out _ h).2; omega
                · omega)
              have HN0 := shid (show ¬ O4 w.heap.size from fun h => by
                have h1 := HF5.out.lt
                rcases (hO4 _).1 h with h | h
                · have := (HOL.out _ h).1; omega
                · omega)
              have HN5 := shid (show 0 < (goesS y).length → g5 < W5.heap.size ∧ ¬ O4 g5 from fun h0 => by
                have h1 := hs5 g5 (by rw [HP5.out h0]; rfl)
                refine ⟨h1.2, fun h => ?_⟩
                rcases (hO4 _).1 h with h | h
                · have := (HOL.out _ h).2; omega
                · omega)
              have HOB := shid (show ∀ x, O4 x → w.heap.size + 1 ≤ x from fun x h => by
                have h1 := HF5.out.lt
                rcases (hO4 _).1 h with h | h
                · exact (HOL.out _ h).1
                · omega)
              have HTO := shid (HT5.out.own.wide (O' := O4) (fun x h => (hO4 x).2 (.inl h)))
              have HOW := shid (show ∀ x, W5.heap.size ≤ x → O4 x from fun x h => (hO4 x).2 (.inr h))
              clear hO4 hs5 HOL HT5
              have HW5 := shid (sbt HWB.out (sbt HB4.out HB5.out))
              have HKT := shid (show ∀ k ∈ goesS y, 0 ≤ k ∧ k < bs.length by rw [← HKS.out]; exact HBK.out.to q)
              have HTL := shid (show (thru x.ins l).length = R by rw [thru_length]; exact HLR.out)
              rw [HKS.out] at HST
              have hkl : (goesS y).length ≤ 2 := by unfold goesS; split <;> (try split) <;> simp
              generalize goesS y = ks at *
              generalize thru x.ins l = bl at *
              have hgl := HS5.out.lt
              go_wp2_with fail
              go_loopw [6, 64] (fun lv i w6 => ∃ j : Nat, j ≤ ks.length ∧ i = .int .i64 j ∧ (∃ S2 lo2 vs2 gs2, (ks.take j).foldl (edgeS bl) (S1, lo) = (S2, lo2) ∧ lv = .bool lo2 ∧ SetsAt w6 (w.heap.size + 1) Bo vs2 S2 R gs2 O4) ∧ Only O4 W5 w6) (fun _ i _ => ks.length - (intOf i).toNat)
              case atStart => exact ⟨0, Nat.zero_le _, rfl, ⟨S1, lo, vs1, gs1, rfl, rfl, HTO.out⟩, Only.refl _ _⟩
              case round =>
                obtain ⟨j, hj, rfl, ⟨S2, lo2, vs2, gs2, hf2, rfl, hs2⟩, ho2⟩ := hrel
                have HFO := shid hf2
                have HS2 := shid hs2
                have HO2 := shid ho2
                have HL2 := shid (show S2.length = bs.length by
                  have := edges_length bl (ks.take j) (S1, lo)
                  rw [hf2] at this
                  exact this.trans HSL.out)
                clear hf2 hs2 ho2
                by_cases hltj : j < ks.length
                · obtain ⟨h5a, h5b⟩ := HN5.out (by omega)
                  have HZ := shid (List.getElem?_eq_getElem hltj)
                  have HZM := shid (HKT.out _ (List.getElem_mem hltj))
                  generalize ks[j] = z at HZ HZM
                  obtain ⟨zn, rfl⟩ := Int.eq_ofNat_of_zero_le HZM.out.1
                  have hz1 : (zn : Int) < bs.length := HZM.out.2
                  obtain rfl := HP5.out (by omega)
                  have e5 := (HO2.out.cell (p := ⟨g5, j, none⟩) h5a h5b).trans (HC5.out j _ HZ.out)
                  have HNG := shid (show ¬ O4 g4 from HN4.out)
                  have hmt := meet_any (w.heap.size + 1) Bo R vs2 S2 gs2 O4 bs.length zn bl (.slice (some ⟨g4, 0, none⟩) bl.length c4) g4 wr HS2.out (by rw [HL2.out]; omega) ⟨⟨c4, rfl⟩, HS5.out.2.keepOnly HO2.out HN4.out⟩ HTL.out hR HN4.out (by have := HF5.out.lt; have := HO2.out.size; omega) (fun x hx => HOW.out x (Nat.le_trans HO2.out.size hx))
                  rw [HL2.out] at hmt
                  have HMT := shid hmt
                  have HTK := shid (show (ks.take (j + 1)).foldl (edgeS bl) (S1, lo) = ((meetS S2 zn bl).1, (meetS S2 zn bl).2 || lo2) by
                    rw [stake_get HZ.out, List.foldl_append, HFO.out]; rfl)
                  clear hmt h5b
                  have h3 : (j : Int) < ks.length := by omega
                  go_wp2_with fail
                  refine HMT.out.mono ?_
                  rintro e w7 ⟨rfl, vs3, gs3, hs3, ho3⟩
                  have HS3 := shid hs3
                  have HO3 := shid (HO2.out.trans ho3)
                  clear hs3 ho3 e5
                  generalize hml : (meetS S2 zn bl).2 = ml at *
                  clear hml
                  cases ml
                  all_goals
                    go_wp2_with fail
                    go_roundw
                    case rel => exact ⟨j + 1, by omega, by go_num, ⟨_, _, vs3, gs3, HTK.out, rfl, HS3.out⟩, HO3.out⟩
                    case measure => simp [intOf]; omega
                · have HFI := shid (show sweepS bs S (q + 1) = (S2, lo2) by rw [HST.out, ← HFO.out, List.take_of_length_le (by omega)])
                  have HFB := shid (HF5.out.only HO2.out HN0.out)
                  have HBB := shid (show Below w.heap.size w wr from HW5.out.trans ((HO2.out.below (B := w.heap.size) (by have := HF5.out.lt; omega) (fun x hx h => by have := HOB.out x h; omega))))
                  go_wp2_with fail
                  go_roundg (bs.length - (q + 1))
                  case measure => omega
                  case rel => exact ⟨q + 1, by omega, by go_num, by rw [HFI.out], by rw [HFI.out]; exact ⟨vs2, gs2, HS2.out.wide (fun _ _ => trivial)⟩, HFB.out, HBB.out⟩
          · obtain rfl : q = bs.length := by omega
            obtain ⟨g1, g2, g3, g4⟩ := HSW.out bs.length
            have G1 := shid g1
            have G3 := shid g3
            have G4 := shid g4
            clear g1 g2 g3 g4 HSW
            generalize sweepS bs S bs.length = st at *
            obtain ⟨S2, lo⟩ := st
            cases lo
            case true =>
              have H3 := shid (show mu R S2 < n3 from Nat.lt_of_lt_of_le (G3.out rfl) HM.out)
              clear G3 G4
              go_wp2_with fail
              go_roundg (mu R S2)
              case measure => exact H3.out
              case rel => exact ⟨vs1, S2, gs1, HS1.out, G1.out, Nat.le_refl _, HF1.out, HB1.out⟩
            case false =>
              obtain ⟨e1, e2⟩ := G4.out rfl
              have E1 := shid e1
              have E2 := shid e2
              clear e1 e2
              go_wp2_with fail
              go_ret
              have hinv := HI.out
              refine ⟨vs1, S, gs1, Bo, _, rfl, HS1.out.congr E1.out, ⟨HI.out, E2.out⟩, HB1.out⟩
end Go.Proofs.Ytdefooailcbnlaa
/- The walk of muntinref14.Lacks. -/
namespace Go.Proofs.Ytdefooailcbnlaa
open Go.RowKit Go.Deep
set_option linter.unusedVariables false
set_option linter.unusedSimpArgs false
theorem lsets_length (ks : List Int) (o : List Bool) : (lsets ks o).length = o.length := (lsets_ok ks o).1
theorem lstep_length (bs : List Blk) (r : Nat) (o : List Bool) (i : Nat) : (lstep bs r o i).length = o.length := by
  unfold lstep; split
  · exact lsets_length _ _
  · rfl
theorem lpass_succ (bs : List Blk) (r : Nat) (o : List Bool) (n : Nat) : lpass bs r o (n + 1) = lstep bs r (lpass bs r o n) n := by unfold lpass; rw [List.range_succ, List.foldl_append]; rfl
theorem lpass_length (bs : List Blk) (r : Nat) (o : List Bool) : ∀ n, (lpass bs r o n).length = o.length
  | 0 => rfl
  | n + 1 => by rw [lpass_succ, lstep_length, lpass_length bs r o n]
theorem lpasses_length (bs : List Blk) (r : Nat) (o : List Bool) : ∀ n, (lpasses bs r o n).length = o.length
  | 0 => rfl
  | n + 1 => by
    show (lpass bs r (lpasses bs r o n) bs.length).length = _
    rw [lpass_length, lpasses_length bs r o n]
theorem linit_length (bs : List Blk) (args : Int) (r : Nat) : (linit bs args r).length = bs.length := by simp [linit]
theorem lacksL_length (bs : List Blk) (args : Int) (r : Nat) : (lacksL bs args r).length = bs.length := by unfold lacksL; rw [lpasses_length, linit_length]
theorem FBox.setOther {w : World} {g : Nat} {nm : ByteArray} {a r : Int} {bv : Value} (h : FBox w g nm a r bv) {B : Nat} (hg : g < B) {W : World} (hb : Below B w W) : FBox W g nm a r bv :=
  ⟨Nat.lt_of_lt_of_le h.lt hb.size, (hb.cell (p := ⟨g, 0, none⟩) hg).trans h.c0, (hb.cell (p := ⟨g, 1, none⟩) hg).trans h.c1, (hb.cell (p := ⟨g, 2, none⟩) hg).trans h.c2, (hb.cell (p := ⟨g, 3, none⟩) hg).trans h.c3⟩
end Go.Proofs.Ytdefooailcbnlaa
/- The walk of muntinref14.missing. -/
namespace Go.Proofs.Ytdefooailcbnlaa
open Go.RowKit Go.Deep
set_option linter.unusedVariables false
set_option linter.unusedSimpArgs false
/-- The rows of what each register lacks, in a slice. -/
def LacksIn (w : World) (pl : Option Addr) (bs : List Blk) (A R : Nat) : Prop :=
  ∃ gl, (0 < R → pl = some ⟨gl, 0, none⟩) ∧ ∀ r, r < R → ∃ v g, w.cell? ⟨gl, r, none⟩ = some v ∧ SetAt w g v (lacksL bs A r)
theorem LacksIn.below {w w' : World} {pl : Option Addr} {bs : List Blk} {A R : Nat} (h : LacksIn w pl bs A R) (hb : Below w.heap.size w w') : LacksIn w' pl bs A R := by
  obtain ⟨gl, h1, h2⟩ := h
  refine ⟨gl, h1, fun r hr => ?_⟩
  obtain ⟨v, g, h3, h4⟩ := h2 r hr
  exact ⟨v, g, (hb.cell (World.block_lt_of_cell? _ _ h3)).trans h3, h4.below hb⟩
def missAt (f : Int → Bool) (l : List Insx) (j : Nat) : Bool :=
  match l[j]? with
  | some x => (readsS x).any fun r => f r && !wrB l r j
  | none => false
def lackF (bs : List Blk) (A : Int) (n : Nat) (r : Int) : Bool := (lacksL bs A r.toNat)[n]?.getD false
def missB (bs : List Blk) (A : Int) (n : Nat) : Bool := (List.range (insAt bs n).length).any (missAt (lackF bs A n) (insAt bs n))
theorem range_any_no' {k : Nat} {f : Nat → Bool} (h : (List.range k).any f = false) (hk : f k = false) : (List.range (k + 1)).any f = false := by
  rw [List.range_succ, List.any_append, h]; simp [hk]
end Go.Proofs.Ytdefooailcbnlaa
