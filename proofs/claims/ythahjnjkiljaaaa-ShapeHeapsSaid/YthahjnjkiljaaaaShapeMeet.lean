/- The sets of all blocks, as they lie in the world; the walk of shape.meet. -/
import Derived.Test.YthahjnjkiljaaaaShapeThrough
namespace Go.Proofs.Ythahjnjkiljaaaa
open Go.RowKit
set_option linter.unusedVariables false
set_option linter.unusedSimpArgs false
/-- The sets S lie in the slice whose cells vs are those of block Bo; set i lies in block gs i; all of these blocks are from B on, and of O. -/
structure SetsAt (w : World) (B Bo : Nat) (vs : List Value) (S : Sets) (R : Nat) (gs : Nat → Nat) (O : Nat → Prop) : Prop where
  len : vs.length = S.length
  row : VRow w Bo 59 vs
  base : B ≤ Bo ∧ O Bo
  nil : ∀ i : Nat, S[i]? = some none → vs[i]? = some (Value.slice none 0 0)
  set : ∀ (i : Nat) (l : List Bool), S[i]? = some (some l) → l.length = R ∧ (∃ c, vs[i]? = some (Value.slice (some ⟨gs i, 0, none⟩) R c)) ∧ VRow w (gs i) 4 (bools l) ∧ B ≤ gs i ∧ gs i ≠ Bo ∧ O (gs i)
  apart : ∀ (i j : Nat) (l m : List Bool), i ≠ j → S[i]? = some (some l) → S[j]? = some (some m) → gs i ≠ gs j
namespace SetsAt
variable {w w' : World} {B Bo R : Nat} {vs : List Value} {S : Sets} {gs : Nat → Nat} {O O' : Nat → Prop}
theorem below (h : SetsAt w B Bo vs S R gs O) (hb : Below w.heap.size w w') : SetsAt w' B Bo vs S R gs O :=
  ⟨h.len, h.row.below hb, h.base, h.nil, fun i l hl => by
    obtain ⟨a, b, c, d⟩ := h.set i l hl
    exact ⟨a, b, c.below hb, d⟩, h.apart⟩
theorem wide (h : SetsAt w B Bo vs S R gs O) (ho : ∀ x, O x → O' x) : SetsAt w B Bo vs S R gs O' :=
  ⟨h.len, h.row, ⟨h.base.1, ho _ h.base.2⟩, h.nil, fun i l hl => by
    obtain ⟨a, b, c, d, e, f⟩ := h.set i l hl
    exact ⟨a, b, c, d, e, ho _ f⟩, h.apart⟩
/-- Only what is there. -/
theorem tight (h : SetsAt w B Bo vs S R gs O) : SetsAt w B Bo vs S R gs (fun x => B ≤ x ∧ x < w.heap.size) :=
  ⟨h.len, h.row, ⟨h.base.1, h.base.1, h.row.lt⟩, h.nil, fun i l hl => by
    obtain ⟨a, b, c, d, e, f⟩ := h.set i l hl
    exact ⟨a, b, c, d, e, d, c.lt⟩, h.apart⟩
theorem own (h : SetsAt w B Bo vs S R gs O) : SetsAt w B Bo vs S R gs (fun x => x = Bo ∨ ∃ (i : Nat) (l : List Bool), S[i]? = some (some l) ∧ gs i = x) :=
  ⟨h.len, h.row, ⟨h.base.1, .inl rfl⟩, h.nil, fun i l hl => by
    obtain ⟨a, b, c, d, e, f⟩ := h.set i l hl
    exact ⟨a, b, c, d, e, .inr ⟨i, l, hl, rfl⟩⟩, h.apart⟩
theorem own_lt (h : SetsAt w B Bo vs S R gs O) {x : Nat} (hx : x = Bo ∨ ∃ (i : Nat) (l : List Bool), S[i]? = some (some l) ∧ gs i = x) : B ≤ x ∧ x < w.heap.size := by
  rcases hx with rfl | ⟨i, l, hl, rfl⟩
  · exact ⟨h.base.1, h.row.lt⟩
  · obtain ⟨a, b, c, d, e, f⟩ := h.set i l hl
    exact ⟨d, c.lt⟩
/-- A new set takes place k. -/
theorem put (h : SetsAt w B Bo vs S R gs O) {k : Nat} (hk : k < S.length) {g : Nat} {v : Value} {b : List Bool} (hv : SetAt w g v b) (hbl : b.length = R) (hg : B ≤ g) (hn : g ≠ Bo) (hne : ∀ (i : Nat) (l : List Bool), S[i]? = some (some l) → gs i ≠ g) (hO : O g) :
    SetsAt (w.setCell ⟨Bo, k, none⟩ v) B Bo (vs.set k v) (S.set k (some b)) R (fun j => if j = k then g else gs j) O := by
  refine ⟨by simp [h.len], h.row.set (by rw [h.len]; exact hk) v, h.base, fun i hi => ?_, fun i l hl => ?_, fun i j l m hij hl hm => ?_⟩
  · by_cases e : k = i
    · subst e; rw [List.getElem?_set_self hk] at hi; cases hi
    · rw [List.getElem?_set_ne e] at hi ⊢; exact h.nil i hi
  · by_cases e : k = i
    · subst e
      rw [List.getElem?_set_self hk] at hl
      cases hl
      obtain ⟨⟨c, rfl⟩, hr⟩ := hv
      refine ⟨hbl, ⟨c, ?_⟩, ?_, ?_, ?_, ?_⟩
      · rw [List.getElem?_set_self (by rw [h.len]; exact hk)]; simp [hbl]
      all_goals simp only [if_true]
      · exact hr.other hn _
      · exact hg
      · exact hn
      · exact hO
    · rw [List.getElem?_set_ne e] at hl
      obtain ⟨a, ⟨c, hc⟩, b', d, e', f⟩ := h.set i l hl
      have e2 : ¬ i = k := fun h => e h.symm
      refine ⟨a, ⟨c, ?_⟩, ?_, ?_, ?_, ?_⟩
      · rw [List.getElem?_set_ne e]; simp only [if_neg e2]; exact hc
      all_goals simp only [if_neg e2]
      · exact b'.other e' _
      · exact d
      · exact e'
      · exact f
  · by_cases e : k = i
    · subst e
      have e2 : ¬ j = k := fun h => hij h.symm
      rw [List.getElem?_set_ne hij] at hm
      simp only [if_true, if_neg e2]
      exact fun e => hne j m hm e.symm
    · rw [List.getElem?_set_ne e] at hl
      have e2 : ¬ i = k := fun h => e h.symm
      by_cases e3 : k = j
      · subst e3
        simp only [if_neg e2, if_true]
        exact hne i l hl
      · rw [List.getElem?_set_ne e3] at hm
        simp only [if_neg e2, if_neg (fun h : j = k => e3 h.symm)]
        exact h.apart i j l m hij hl hm
/-- Set k loses a register. -/
theorem lose (h : SetsAt w B Bo vs S R gs O) {k r : Nat} {l : List Bool} (hl : S[k]? = some (some l)) (hr : r < R) (x : Bool) :
    SetsAt (w.setCell ⟨gs k, r, none⟩ (.bool x)) B Bo vs (S.set k (some (l.set r x))) R gs O := by
  have hk : k < S.length := (List.getElem?_eq_some_iff.1 hl).1
  obtain ⟨hlen, hc, hrow, hB, hne, hO⟩ := h.set k l hl
  refine ⟨by simp [h.len], h.row.other (fun e => hne e.symm) _, h.base, fun i hi => ?_, fun i m hm => ?_, fun i j m m' hij hm hm' => ?_⟩
  · by_cases e : k = i
    · subst e; rw [List.getElem?_set_self hk] at hi; cases hi
    · rw [List.getElem?_set_ne e] at hi; exact h.nil i hi
  · by_cases e : k = i
    · subst e
      rw [List.getElem?_set_self hk] at hm
      cases hm
      refine ⟨by simpa using hlen, hc, ?_, hB, hne, hO⟩
      have := hrow.set (k := r) (by rw [bools_length]; omega) (.bool x)
      rw [bools_set] at this
      exact this
    · rw [List.getElem?_set_ne e] at hm
      obtain ⟨a1, a2, a3, a4, a5, a6⟩ := h.set i m hm
      exact ⟨a1, a2, a3.other (h.apart i k m l (fun e' => e e'.symm) hm hl) _, a4, a5, a6⟩
  · have hh : ∀ (i : Nat) (m : List Bool), (S.set k (some (l.set r x)))[i]? = some (some m) → ∃ m', S[i]? = some (some m') := by
      intro i m hm
      by_cases e : k = i
      · subst e; exact ⟨l, hl⟩
      · rw [List.getElem?_set_ne e] at hm; exact ⟨m, hm⟩
    obtain ⟨a, ha⟩ := hh i m hm
    obtain ⟨b, hb⟩ := hh j m' hm'
    exact h.apart i j a b hij ha hb
theorem congr {S' : Sets} (h : SetsAt w B Bo vs S R gs O) (e : S = S') : SetsAt w B Bo vs S' R gs O := e ▸ h
end SetsAt
def partL (l b : List Bool) (r : Nat) : List Bool := andL (l.take r) (b.take r) ++ l.drop r
theorem partL_get (l b : List Bool) (r j : Nat) (h : l.length = b.length) (hr : r ≤ l.length) : (partL l b r)[j]? = if j < r then (andL l b)[j]? else l[j]? := by
  unfold partL
  have hlen : (andL (l.take r) (b.take r)).length = r := by rw [andL_length _ _ (by simp; omega)]; simp; omega
  split
  · rename_i hj
    rw [List.getElem?_append_left (by omega)]
    unfold andL
    rw [List.getElem?_zipWith, List.getElem?_zipWith, List.getElem?_take_of_lt hj, List.getElem?_take_of_lt hj]
  · rename_i hj
    rw [List.getElem?_append_right (by omega), hlen, List.getElem?_drop]
    congr 1; omega
theorem partL_length (l b : List Bool) (r : Nat) (h : l.length = b.length) (hr : r ≤ l.length) : (partL l b r).length = l.length := by
  unfold partL
  rw [List.length_append, andL_length _ _ (by simp; omega)]
  simp; omega
theorem partL_succ (l b : List Bool) (r : Nat) (x y : Bool) (h : l.length = b.length) (hx : l[r]? = some x) (hy : b[r]? = some y) : partL l b (r + 1) = (partL l b r).set r (x && y) := by
  have hr : r < l.length := (List.getElem?_eq_some_iff.1 hx).1
  apply List.ext_getElem?
  intro j
  rw [partL_get _ _ _ _ h (by omega)]
  by_cases e : r = j
  · subst e
    rw [if_pos (by omega), List.getElem?_set_self (by rw [partL_length _ _ _ h (by omega)]; exact hr)]
    unfold andL
    rw [List.getElem?_zipWith, hx, hy]
  · rw [List.getElem?_set_ne e, partL_get _ _ _ _ h (by omega)]
    by_cases hj : j < r
    · rw [if_pos (by omega), if_pos hj]
    · rw [if_neg (by omega), if_neg hj]
theorem partL_keep (l b : List Bool) (r : Nat) (x y : Bool) (h : l.length = b.length) (hx : l[r]? = some x) (hy : b[r]? = some y) (hxy : (x && y) = x) : partL l b (r + 1) = partL l b r := by
  rw [partL_succ l b r x y h hx hy, hxy]
  have hr : r < l.length := (List.getElem?_eq_some_iff.1 hx).1
  apply set_self
  rw [partL_get _ _ _ _ h (by omega), if_neg (by omega)]
  exact hx
theorem lostL_succ (l b : List Bool) (r : Nat) (x y : Bool) (hx : l[r]? = some x) (hy : b[r]? = some y) : lostL (l.take (r + 1)) (b.take (r + 1)) = (lostL (l.take r) (b.take r) || (x && !y)) := by
  unfold lostL
  rw [stake_get hx, stake_get hy, List.zipWith_append (by
    have h1 := (List.getElem?_eq_some_iff.1 hx).1
    have h2 := (List.getElem?_eq_some_iff.1 hy).1
    simp; omega)]
  simp
theorem partL_full (l b : List Bool) (h : l.length = b.length) : partL l b l.length = andL l b := by
  unfold partL
  rw [List.take_of_length_le (Nat.le_refl _), List.take_of_length_le (by omega), List.drop_of_length_le (Nat.le_refl _), List.append_nil]
set_option maxRecDepth 100000 in
set_option maxHeartbeats 4000000 in
theorem meet_any (B Bo R : Nat) (vs : List Value) (S : Sets) (gs : Nat → Nat) (O : Nat → Prop) (c k : Nat) (b : List Bool) (bv : Value) (gb : Nat) (w : World) (hS : SetsAt w B Bo vs S R gs O) (hk : k < S.length) (hb : SetAt w gb bv b) (hbl : b.length = R) (hR : R ≤ 4096) (hgb : ¬ O gb) (hB : B ≤ w.heap.size) (hO : ∀ x, w.heap.size ≤ x → O x) :
    Calls Try.prog 41 #[.slice (some ⟨Bo, 0, none⟩) S.length c, .int .i64 k, bv] w fun e w' => e = .returned (.bool (meetS S k b).2) ∧ ∃ vs' gs', SetsAt w' B Bo vs' (meetS S k b).1 R gs' O ∧ Only O w w' := by
  have q22 : ∀ (w : World) (a : Option Addr) (n c n' c' : Nat), (binOp .eql 59 (.slice a n c) (.slice none n' c')).run Try.prog w = .ok (.bool a.isNone) w := fun w a n c n' c' => Lib.run_eql_slice_nil w _ _ a n c n' c' Try.underlying59
  have HM := shid (show meetS S k b = match S[k]? with | some (some l) => (S.set k (some (andL l b)), lostL l b) | _ => (S.set k (some b), true) from rfl)
  have hkI : (k : Int) < S.length := by omega
  have hBo := hS.row.lt
  obtain ⟨o, ho⟩ : ∃ o, S[k]? = some o := ⟨_, List.getElem?_eq_getElem hk⟩
  have HSS := shid hS
  have HBB := shid hb
  have HO := shid hO
  have HGB := shid hgb
  have HBL := shid hbl
  have hbR : b.length ≤ 4096 := by omega
  clear hbl
  cases o with
  | none =>
    have HR1 := shid (show (meetS S k b).1 = S.set k (some b) by rw [HM.out, ho])
    have HR2 := shid (show (meetS S k b).2 = true by rw [HM.out, ho])
    have c0 := hS.row.cell (hS.nil k ho)
    have HHO := shid ho
    have HCL := shid (sclone_any w bv gb b hbR hb)
    obtain ⟨⟨cb, rfl⟩, _⟩ := hb
    clear HM ho hS hO
    go_enter Try.func41, Try.ntmps41
    go_wp2_with fail
    refine HCL.out.mono ?_
    rintro e w1 ⟨v1, g, rfl, hg, hv, hb1⟩
    have HG := shid hg
    have HV := shid hv
    have HB1 := shid hb1
    have HS1 := shid (HSS.out.below hb1)
    obtain ⟨⟨c1, rfl⟩, _⟩ := hv
    have e0 := HS1.out.row.cell (HS1.out.nil k HHO.out)
    have f0 := HS1.out.row.frozen k
    clear hg hb1 c0 HCL
    go_wp2_with fail
    go_ret
    have hne : g ≠ Bo := by have := HG.out; omega
    have hfr : ∀ (i : Nat) (l : List Bool), S[i]? = some (some l) → gs i ≠ g := fun i l hl e => by
      have h1 := (HSS.out.set i l hl).2.2.1.lt
      have := HG.out
      omega
    have hfin := HS1.out.put (k := k) hk HV.out HBL.out (Nat.le_trans hB HG.out) hne hfr (HO.out g HG.out)
    refine ⟨by rw [HR2.out]; rfl, _, _, hfin.congr HR1.out.symm, (Only.of_below HB1.out).setCell HSS.out.base.2 _⟩
  | some l =>
    have hl := hS.set k l ho
    have HR1 := shid (show (meetS S k b).1 = S.set k (some (andL l b)) by rw [HM.out, ho])
    have HR2 := shid (show (meetS S k b).2 = lostL l b by rw [HM.out, ho])
    have HLL := shid (show l.length = R from hl.1)
    have HHO := shid ho
    obtain ⟨ck, hck⟩ := hl.2.1
    have HCK := shid hck
    have HNB := shid (show gs k ≠ gb from fun e => hgb (e ▸ hl.2.2.2.2.2))
    have HOK := shid (show O (gs k) from hl.2.2.2.2.2)
    have c0 := hS.row.cell hck
    have hnb : Bo ≠ gs k := fun e => hl.2.2.2.2.1 e.symm
    have HNBO := shid hnb
    obtain ⟨⟨cb, rfl⟩, _⟩ := hb
    clear HM ho hS hO hl hck hnb
    go_enter Try.func41, Try.ntmps41
    go_wp2_with fail
    clear c0
    go_loopw [7, 24] (fun lv i wr => ∃ r : Nat, r ≤ R ∧ i = .int .i64 r ∧ lv = .bool (lostL (l.take r) (b.take r)) ∧ SetsAt wr B Bo vs (S.set k (some (partL l b r))) R gs O ∧ VRow wr gb 4 (bools b) ∧ Only O w wr) (fun _ i _ => R - (intOf i).toNat)
    case atStart => exact ⟨0, Nat.zero_le _, rfl, by simp [lostL], HSS.out.congr (by rw [show partL l b 0 = l by simp [partL, andL]]; exact (set_self HHO.out).symm), HBB.out.2, Only.refl _ _⟩
    case round =>
      obtain ⟨r, hr, rfl, rfl, hs1, hv1, ho1⟩ := hrel
      have HS1 := shid hs1
      have HV1 := shid hv1
      have HO1 := shid ho1
      clear hs1 hv1 ho1
      by_cases hlt : r < R
      · have HX := shid (show l[r]? = some _ from List.getElem?_eq_getElem (by rw [HLL.out]; exact hlt))
        have HY := shid (show b[r]? = some _ from List.getElem?_eq_getElem (by rw [HBL.out]; exact hlt))
        generalize l[r]'(by rw [HLL.out]; exact hlt) = x at HX
        generalize b[r]'(by rw [HBL.out]; exact hlt) = y at HY
        have HST := shid (show (S.set k (some (partL l b r)))[k]? = some (some (partL l b r)) from List.getElem?_set_self hk)
        have c0 := HS1.out.row.cell HCK.out
        have c1 := ((HS1.out.set k _ HST.out).2.2.1).cell (k := r) (bools_get (show (partL l b r)[r]? = some x by rw [partL_get _ _ _ _ (by rw [HLL.out, HBL.out]) (by rw [HLL.out]; omega), if_neg (by omega)]; exact HX.out))
        have f1 := ((HS1.out.set k _ HST.out).2.2.1).frozen r
        have c2 := HV1.out.cell (bools_get HY.out)
        have HLS := shid (lostL_succ l b r x y HX.out HY.out)
        have hrI : (r : Int) < R := by omega
        have hrB : (r : Int) < b.length := by rw [HBL.out]; exact hrI
        generalize hlo : lostL (l.take r) (b.take r) = lo at *
        have HLO := shid hlo
        clear hlo
        cases x
        case false =>
          have HP := shid (partL_keep l b r false y (by rw [HLL.out, HBL.out]) HX.out HY.out rfl)
          go_wp2_with fail
          go_roundw
          case rel => exact ⟨r + 1, by omega, by go_num, by rw [HLS.out]; simp, HS1.out.congr (by rw [HP.out]), HV1.out, HO1.out⟩
          case measure => simp [intOf]; omega
        case true =>
          cases y
          case true =>
            have HP := shid (partL_keep l b r true true (by rw [HLL.out, HBL.out]) HX.out HY.out rfl)
            go_wp2_with fail
            go_roundw
            case rel => exact ⟨r + 1, by omega, by go_num, by rw [HLS.out]; simp, HS1.out.congr (by rw [HP.out]), HV1.out, HO1.out⟩
            case measure => simp [intOf]; omega
          case false =>
            have HP := shid (partL_succ l b r true false (by rw [HLL.out, HBL.out]) HX.out HY.out)
            have HS2 := shid ((HS1.out.lose HST.out hlt false).congr (show _ = S.set k (some (partL l b (r + 1))) by rw [HP.out, List.set_set]; rfl))
            have HV2 := shid (show VRow (wr.setCell ⟨gs k, r, none⟩ (.bool false)) gb 4 (bools b) from HV1.out.other (fun e => HNB.out e.symm) _)
            have HO2 := shid (show Only O w (wr.setCell ⟨gs k, r, none⟩ (.bool false)) from HO1.out.setCell HOK.out _)
            go_wp2_with fail
            go_roundw
            case rel => exact ⟨r + 1, by omega, by go_num, by rw [HLS.out]; simp, HS2.out, HV2.out, HO2.out⟩
            case measure => simp [intOf]; omega
      · obtain rfl : r = R := by omega
        have HP := shid (show partL l b r = andL l b by rw [← HLL.out]; exact partL_full l b (by rw [HLL.out, HBL.out]))
        have HL := shid (show lostL (l.take r) (b.take r) = lostL l b by rw [List.take_of_length_le (by rw [HLL.out]; omega), List.take_of_length_le (by rw [HBL.out]; omega)])
        rw [HL.out]
        go_wp2_with fail
        go_ret
        exact ⟨by rw [HR2.out]; rfl, vs, gs, HS1.out.congr (by rw [HP.out]; exact HR1.out.symm), HO1.out⟩
end Go.Proofs.Ythahjnjkiljaaaa
