/- Plain law of the state word: what its parts are, the windows, the WIM. No program in sight. -/
import Derived.WalkKit
namespace Go.Proofs.YtilegepenibeoaaDoor
open Go.RowKit
set_option linter.unusedVariables false
/-- A state. -/
structure Px where
  cwp : Int
  pil : Int
  bank : Int
  flags : Int
def Px.bd (p : Px) : Prop := (0 ≤ p.cwp ∧ p.cwp < 256) ∧ (0 ≤ p.pil ∧ p.pil < 256) ∧ (0 ≤ p.bank ∧ p.bank < 256) ∧ (0 ≤ p.flags ∧ p.flags < 256)
instance (p : Px) : Decidable p.bd := by unfold Px.bd; infer_instance
abbrev Px.agg (p : Px) : Value := .agg #[.int .u8 p.cwp, .int .u8 p.pil, .int .u8 p.bank, .int .u8 p.flags]
def Px.zero : Px := ⟨0, 0, 0, 0⟩
def winP (nw : Int) : Prop := 2 ≤ nw ∧ nw ≤ 32
instance (nw : Int) : Decidable (winP nw) := by unfold winP; infer_instance
def pmayP (p : Px) (nw : Int) : Prop := p.cwp < nw ∧ p.pil < 16 ∧ p.bank < 17 ∧ p.flags < 16
instance (p : Px) (nw : Int) : Decidable (pmayP p nw) := by unfold pmayP; infer_instance
def packW (p : Px) : Int := p.cwp + 32 * p.pil + 512 * p.bank + 16384 * p.flags
def packS (p : Px) (nw : Int) : Int := if winP nw ∧ pmayP p nw then packW p else 0
def packE (p : Px) (nw : Int) : Int := if winP nw ∧ pmayP p nw then 0 else 2
def unW (w : Int) : Px := ⟨w % 32, w / 32 % 16, w / 512 % 32, w / 16384 % 16⟩
def unOk (w nw : Int) : Prop := w < 262144 ∧ pmayP (unW w) nw
instance (w nw : Int) : Decidable (unOk w nw) := by unfold unOk; infer_instance
def unS (w nw : Int) : Px := if winP nw ∧ unOk w nw then unW w else Px.zero
def unE (w nw : Int) : Int := if winP nw then (if unOk w nw then 0 else 5) else 2
theorem pack_bd {p : Px} {nw : Int} (hb : p.bd) (hw : winP nw) (h : pmayP p nw) : 0 ≤ packW p ∧ packW p < 262144 := by
  obtain ⟨⟨a, _⟩, ⟨b, _⟩, ⟨c, _⟩, ⟨d, _⟩⟩ := hb
  obtain ⟨h1, h2, h3, h4⟩ := h
  obtain ⟨_, hw⟩ := hw
  unfold packW; omega
theorem un_pack {p : Px} {nw : Int} (hb : p.bd) (hw : winP nw) (h : pmayP p nw) : unW (packW p) = p := by
  obtain ⟨cwp, pil, bank, flags⟩ := p
  obtain ⟨⟨a, _⟩, ⟨b, _⟩, ⟨c, _⟩, ⟨d, _⟩⟩ := hb
  obtain ⟨h1, h2, h3, h4⟩ := h
  obtain ⟨_, hw⟩ := hw
  simp only at *
  unfold unW packW
  congr 1 <;> simp only <;> omega
theorem pack_un {w : Int} (h0 : 0 ≤ w) (h1 : w < 262144) : packW (unW w) = w := by
  unfold unW packW; simp only; omega
theorem un_bd {w : Int} (h0 : 0 ≤ w) : (unW w).bd := by
  unfold unW Px.bd; simp only; omega
theorem un_of_pack {p : Px} {nw : Int} (hb : p.bd) (h : winP nw ∧ pmayP p nw) : unS (packW p) nw = p ∧ unE (packW p) nw = 0 := by
  have hu := un_pack hb h.1 h.2
  have hB := pack_bd hb h.1 h.2
  have hok : unOk (packW p) nw := ⟨hB.2, by rw [hu]; exact h.2⟩
  exact ⟨by unfold unS; rw [if_pos ⟨h.1, hok⟩, hu], by unfold unE; rw [if_pos h.1, if_pos hok]⟩
theorem pack_of_un {w nw : Int} (h0 : 0 ≤ w) (h : winP nw ∧ unOk w nw) : packS (unS w nw) nw = w ∧ packE (unS w nw) nw = 0 := by
  have e : unS w nw = unW w := if_pos h
  rw [e]
  have hm : winP nw ∧ pmayP (unW w) nw := ⟨h.1, h.2.2⟩
  exact ⟨by unfold packS; rw [if_pos hm, pack_un h0 h.2.1], by unfold packE; rw [if_pos hm]⟩
/-- Numbers below others, pair by pair, and none below 0. -/
def belowB (l : List Int) (m : Nat) : Bool := (List.range m).all fun j => decide (0 ≤ l.getD (2 * j) 0 ∧ l.getD (2 * j) 0 < l.getD (2 * j + 1) 0)
theorem below_step {l : List Int} {k : Nat} (h : belowB l k = true) (a b : Int) (ha : l.getD (2 * k) 0 = a) (hb : l.getD (2 * k + 1) 0 = b) : belowB l (k + 1) = decide (0 ≤ a ∧ a < b) := by
  unfold belowB at h ⊢
  rw [List.range_succ, List.all_append, h, ← ha, ← hb]; simp
theorem below_stop {l : List Int} {k m : Nat} (hk : k < m) (a b : Int) (ha : l.getD (2 * k) 0 = a) (hb : l.getD (2 * k + 1) 0 = b) (hn : ¬ (0 ≤ a ∧ a < b)) : belowB l m = false := by
  unfold belowB
  rw [List.all_eq_false]
  exact ⟨k, by simpa using hk, by rw [ha, hb]; simpa using hn⟩
end Go.Proofs.YtilegepenibeoaaDoor
