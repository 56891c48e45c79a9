/- The walk of mem.Put. -/
import Derived.Test.YtilegepenibeoaaMemMake
import Derived.StillTailTactics
namespace Go.Proofs.Ytilegepenibeoaa
open Go.RowKit
set_option linter.unusedVariables false
/-- A slice of words, as it is read; it lies in no block of S. -/
def U32s (S : Nat → Prop) (w : World) (v : Value) (l : List Int) : Prop :=
  Words l ∧ ∃ p c, v = .slice p l.length c ∧ (0 < l.length → ∃ b o, p = some ⟨b, o, none⟩ ∧ ¬ S b ∧ b < w.heap.size ∧ ∀ k, k < l.length → w.cell? ⟨b, o + k, none⟩ = some (.int .u32 (l.getD k 0)))
theorem Words.at {l : List Int} (h : Words l) (i : Nat) : 0 ≤ l.getD i 0 ∧ l.getD i 0 < 4294967296 := by
  rw [List.getD_eq_getElem?_getD]
  cases hd : l[i]? with
  | none => simp
  | some x => exact h x (List.mem_of_getElem? hd)
theorem putS_snoc (x : Int) : ∀ (l d : List Int) (a : Nat), putS d a (l ++ [x]) = storeS (putS d a l) (a + 4 * l.length) 4 x := by
  intro l
  induction l with
  | nil => intro d a; simp [putS]
  | cons y l ih => intro d a; simp only [List.cons_append, putS]; rw [ih]; congr 1; simp; omega
theorem putS_take (l d : List Int) (a k : Nat) (hk : k < l.length) : putS d a (l.take (k + 1)) = storeS (putS d a (l.take k)) (a + 4 * k) 4 (l.getD k 0) := by
  have e : l.take (k + 1) = l.take k ++ [l.getD k 0] := by
    rw [List.take_succ_eq_append_getElem hk, List.getD_eq_getElem?_getD, List.getElem?_eq_getElem hk]; rfl
  rw [e, putS_snoc, List.length_take, Nat.min_eq_left (by omega)]
def putV (d : List Int) (a : Int) (l : List Int) : List Int := if spanE d.length a l.length 4 = 0 then putS d a.toNat l else d
def Puts (m g : Nat) (d : List Int) (a : Int) (l : List Int) (w : World) (e : Ending) (w' : World) : Prop :=
  e = .returned (.int .i64 (spanE d.length a l.length 4)) ∧ MemAt w' m g (putV d a l) ∧ Only (· = g) w w' ∧ w'.heap.size = w.heap.size
set_option maxRecDepth 100000 in
set_option maxHeartbeats 1000000 in
theorem put_any (w : World) (m g : Nat) (d : List Int) (h : MemAt w m g d) (a : Int) (ha : 0 ≤ a) (ha2 : a < 4294967296) (v : Value) (l : List Int) (hl : l.length ≤ maxLen) (hv : U32s (· = g) w v l) :
    Calls Try.prog 13 #[.pointer (some ⟨m, 0, none⟩), .int .u32 a, v] w (Puts m g d a l w) := by
  unfold maxLen at hl
  have hs := span_any w m g d h a l.length 4 ha ha2 (by omega)
  have HS := mhid hs
  have H := mhid h
  clear hs h
  obtain ⟨hw, p, c, rfl, hv⟩ := hv
  have HV := mhid hv
  clear hv
  go_enter Try.func13, Try.ntmps13
  go_wp2_with fail
  refine HS.out.mono ?_
  rintro e w' (⟨he, ⟨v, rfl, b, rfl, hb⟩, rfl⟩ | ⟨he, rfl, rfl⟩)
  · obtain ⟨_, _, h4, h5⟩ := spanE_ok he ha
    have HE := mhid he
    clear he HS
    by_cases h0 : l.length = 0
    · obtain rfl : l = [] := List.length_eq_zero_iff.1 h0
      clear h0 hb
      go_wp2_with fail
      go_rounds 1
      go_ret
      refine ⟨mret_i HE.out.symm, ?_, Only.refl _ _, rfl⟩
      rw [show putV d a [] = d from by unfold putV; split <;> rfl]; exact H.out
    · have hb2 : b = a.toNat := by omega
      subst hb2
      clear hb
      have hl4 : ((4 * (l.length : Int)).toNat : Nat) = 4 * l.length := by omega
      rw [hl4]
      clear hl4
      · obtain ⟨b, o, rfl, hb1, hb2, hc⟩ := HV.out (by omega)
        have hbs2 : ¬ b = g ∧ b < w.heap.size := ⟨hb1, hb2⟩
        have HC := mhid hc
        have h0' : 0 < l.length := by omega
        clear hc HV h0 hb1 hb2
        go_wp2_with fail
        go_loopw [9, 21] (fun _ i wr => ∃ k : Nat, k ≤ l.length ∧ i = .int .i64 k ∧ MemAt wr m g (putS d a.toNat (l.take k)) ∧ Only (· = g) w wr ∧ wr.heap.size = w.heap.size) (fun _ i _ => l.length - (intOf i).toNat)
        case atStart => exact ⟨0, Nat.zero_le _, rfl, H.out, Only.refl _ _, rfl⟩
        case round =>
          obtain ⟨k, hk, rfl, hmem, honly, hsz⟩ := hrel
          have hlen := hmem.len
          by_cases hlt : k < l.length
          · have hcell : wr.cell? ⟨b, o + k, none⟩ = some (.int .u32 (l.getD k 0)) := (honly.cell (p := ⟨b, o + k, none⟩) hbs2.2 hbs2.1).trans (HC.out k hlt)
            have hx := hw.at k
            have hlen2 := putS_len (l.take k) d a.toNat
            rw [hlen2] at hlen
            have HM := mhid hmem
            have HO := mhid honly
            clear hmem honly hlen2 HC
            have hpt := putS_take l d a.toNat k hlt
            have HP := mhid hpt
            clear hpt
            generalize l.getD k 0 = x at hcell hx HP
            have hk4 : (k : Int) < l.length := by omega
            go_wp2_with fail
            have f1 : IntKind.i64.wrap (4 * (k : Int)) = 4 * (k : Int) := IntWalk.i64_in _ (by omega)
            have f2 : IntKind.i64.wrap (4 * (k : Int) + 4) = 4 * (k : Int) + 4 := IntWalk.i64_in _ (by omega)
            have f3 : (0 : Int) ≤ 4 * (k : Int) := by omega
            have f4 : (0 : Int) ≤ 4 * (k : Int) + 4 := by omega
            have f5 : (4 * (k : Int) + 4).toNat = 4 * k + 4 := by omega
            have f6 : (4 * (k : Int)).toNat = 4 * k := by omega
            have f7 : 4 * (k : Int) + 4 ≤ 4 * (l.length : Int) := by omega
            have f8 : ¬ 4 * l.length = 4 * k := by omega
            have f9 : 4 * (k : Int) ≤ 4 * (k : Int) + 4 := by omega
            go_still_tail 11, (by kernel_rfl)
            have HF := mhid (And.intro f1 f2)
            clear f1 f2 f3 f4 f5 f6 f7 f8 f9
            change wpList _ _ _ _ _ wr.drew
            have HM2 : MemAt wr.drew m g (putS d a.toNat (l.take k)) := HM.out.keep ((Only.refl (fun _ => False) wr).drew) id id
            have HO2 : Only (· = g) w wr.drew := HO.out.drew
            have hsz2 : wr.drew.heap.size = w.heap.size := hsz
            generalize wr.drew = w2 at HM2 HO2 hsz2 ⊢
            go_wp2_with fail
            refine (lay_four _ m g _ HM2 (a.toNat + 4 * k) _ _ hx.1 hx.2 (by rw [putS_len]; omega)).mono ?_
            rintro e w' ⟨rfl, rfl⟩
            have HM3 := HM2.laid4 (a := a.toNat + 4 * k) (x := x) (by rw [putS_len]; omega)
            rw [← HP.out] at HM3
            have HO3 := HO2.trans (laid4_only w2 g (a.toNat + 4 * k) x)
            have hs3 : (laid4 w2 g (a.toNat + 4 * k) x).heap.size = w.heap.size := by simp [laid4, hsz2]
            generalize laid4 w2 g (a.toNat + 4 * k) x = w3 at HM3 HO3 hs3 ⊢
            clear HM2 HO2 HM HO
            have G3 := mhid (And.intro HM3 (And.intro HO3 hs3))
            clear HM3 HO3 hs3
            go_wp2_with fail
            go_roundw
            case rel => exact ⟨k + 1, by omega, by go_num, G3.out.1, G3.out.2.1, G3.out.2.2⟩
            case measure => simp [intOf] <;> omega
          · obtain rfl : k = l.length := by omega
            go_wp2_with fail
            go_ret
            refine ⟨mret_i HE.out.symm, ?_, honly, hsz⟩
            rw [show putV d a l = putS d a.toNat l from if_pos HE.out]
            rw [List.take_length] at hmem
            exact hmem
  · clear HS
    have e0 : putV d a l = d := if_neg he
    have E0 := mhid e0
    clear e0
    go_wp2_with fail
    go_rounds 1
    go_ret
    exact ⟨mret_i rfl, by rw [E0.out]; exact H.out, Only.refl _ _, rfl⟩
end Go.Proofs.Ytilegepenibeoaa
