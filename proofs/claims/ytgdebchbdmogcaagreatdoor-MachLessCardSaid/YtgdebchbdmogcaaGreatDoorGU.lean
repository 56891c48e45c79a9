/- Several texts in one: MemSame, MemHead, MemAct, MemRowsLaw, PsrRes, PsrRWin, PsrRRes, PsrHead, PsrOpen, InstOpen, MachOpen. -/
import Derived.Test.YtgdebchbdmogcaaGreatDoorGD
import Derived.Test.YtgdebchbdmogcaaGreatDoorGC
import Derived.Test.YtgdebchbdmogcaaGreatDoorGH
import Derived.Test.YtgdebchbdmogcaaGreatDoorGLa
import Derived.ProofKit
import Derived.OpenShut
import Derived.Maps.AppendAt
import Derived.StillTailTactics
import Derived.Laws.EntriesVeiled
import Derived.Deep.QuietTactic
import Derived.BigQuiet
import Derived.Deep.Slices
/- Whether two rows of words are the same: see Row32. -/
/- The walk of muntinlaw05.head: the calls whose answers the document fixes. -/
namespace Go.Proofs.YtgdebchbdmogcaaGreatDoor
open Go.RowKit
set_option linter.unusedVariables false
theorem mbt {a b c : World} (h : Below a.heap.size a b) (k : Below b.heap.size b c) : Below a.heap.size a c := h.trans (k.mono h.size)
/-- A call that changes one block of the call's own. -/
theorem mbo {a b c : World} {g : Nat} (h : Below a.heap.size a b) (k : Only (· = g) b c) (hg : a.heap.size ≤ g) : Below a.heap.size a c :=
  h.trans (k.below h.size (fun i hi e => by omega))
theorem two_words (w : World) (S : Nat → Prop) (x y : Int) (hx : 0 ≤ x ∧ x < 4294967296) (hy : 0 ≤ y ∧ y < 4294967296) (hS : ∀ k, S k → k < w.heap.size) :
    U32s S (w.alloc (.cells #[.int .u32 x, .int .u32 y] 22)) (.slice (some ⟨w.heap.size, 0, none⟩) 2 2) [x, y] := by
  refine ⟨fun z hz => ?_, _, 2, rfl, fun _ => ⟨w.heap.size, 0, rfl, fun h => ?_, by simp, fun k hk => ?_⟩⟩
  · simp at hz; rcases hz with rfl | rfl
    · exact hx
    · exact hy
  · have := hS _ h; omega
  · have hc : k = 0 ∨ k = 1 := by simp at hk; omega
    rcases hc with rfl | rfl <;> simp
theorem two_read (w : World) (x y : Int) : Reads32 (w.alloc (.cells #[.int .u32 x, .int .u32 y] 22)) (.slice (some ⟨w.heap.size, 0, none⟩) 2 2) [x, y] := by
  refine ⟨by unfold maxLen; simp, _, 2, rfl, fun _ => ⟨w.heap.size, 0, rfl, fun k hk => ?_⟩⟩
  have hc : k = 0 ∨ k = 1 := by simp at hk; omega
  rcases hc with rfl | rfl <;> simp
theorem Reads32.keep {a b : World} {v : Value} {l : List Int} (h : Reads32 a v l) (hb : Below a.heap.size a b) : Reads32 b v l := by
  obtain ⟨h1, p, c, rfl, h2⟩ := h
  refine ⟨h1, p, c, rfl, fun h0 => ?_⟩
  obtain ⟨k, o, rfl, h3⟩ := h2 h0
  exact ⟨k, o, rfl, fun j hj => (hb.cell (World.block_lt_of_cell? _ _ (h3 j hj))).trans (h3 j hj)⟩
abbrev e0 : List Int := [0, 0, 0, 0, 0, 0, 0, 0, 0, 0, 0, 0, 0, 0, 0, 0]
abbrev e1 : List Int := [0, 0, 0, 0, 1, 2, 3, 4, 0, 0, 0, 0, 0, 0, 0, 0]
abbrev e2 : List Int := [0, 0, 0, 0, 1, 255, 3, 4, 0, 0, 0, 0, 0, 0, 0, 0]
abbrev e3 : List Int := [0, 0, 0, 0, 1, 255, 3, 4, 0, 0, 0, 5, 0, 0, 0, 6]
end Go.Proofs.YtgdebchbdmogcaaGreatDoor
/- How an argument of type Act (muntinlaw05) is read. -/
namespace Go.Proofs.YtgdebchbdmogcaaGreatDoor
open Go.RowKit Go.ChangeShapes Go.WideShapes Go.ChangeAt
set_option linter.unusedVariables false
theorem cells_u8 : Tryz.prog.cellsOf 5 = 1 := by kernel_rfl
theorem cells_u32 : Tryz.prog.cellsOf 22 = 1 := by kernel_rfl
theorem cells_int : Tryz.prog.cellsOf 3 = 1 := by kernel_rfl
theorem cells_su32 : Tryz.prog.cellsOf 25 = 1 := by kernel_rfl
theorem list5 {α : Type} {l : List α} (h : l.length = 5) : ∃ a b c d e, l = [a, b, c, d, e] := by
  match l, h with
  | [a, b, c, d, e], _ => exact ⟨a, b, c, d, e, rfl⟩
section
variable {H : Type} {enc : TypeId × Value → H} {w : World} {base : Nat} {spare : Nat → Bool} {held : Bool} {fuel : Nat} {x : DataW H × List MemPlace}
/-- A slice of words that came in. -/
theorem trod_u32s {cs : List Value} (h : DataW.trod enc Tryz.prog w base spare held fuel 25 cs = some x) : ∃ v l, cs = [v] ∧ l.length ≤ maxLen ∧ U32s (fun k => w.heap.size ≤ k) w v l := by
  rcases open_ints Tryz.underlying25 Tryz.underlying22 cells_u32 h with ⟨rfl, _⟩ | ⟨a, len, cap, zs, rfl, _, hl, hm, hz, _, hcell, hwz⟩
  · exact ⟨_, [], rfl, by unfold maxLen; simp, fun z hz => (by cases hz), none, 0, rfl, fun h0 => by simp at h0⟩
  · have hle : len ≤ zs.length := by rw [hz]; split <;> omega
    refine ⟨_, zs.take len, rfl, by simp; omega, fun z hz => ?_, some a, cap, by rw [List.length_take, Nat.min_eq_left hle], fun h0 => ?_⟩
    · have := bounds_u32 (hwz z (List.mem_of_mem_take hz)); omega
    · rw [List.length_take, Nat.min_eq_left hle] at h0
      have hsp := World.cell?_spot (hcell 0 (by omega))
      obtain ⟨b, o, sp⟩ := a
      have hsp2 : sp = none := by simpa [Addr.add] using hsp
      subst hsp2
      have h1 : ∀ i, i < zs.length → w.cell? ⟨b, o + i, none⟩ = some (.int .u32 (zs.getD i 0)) := by
        intro i hi
        have h2 := hcell i hi
        have e : (⟨b, o, none⟩ : Addr).add i = ⟨b, o + i, none⟩ := by unfold Addr.add; split <;> simp [*]
        rw [e] at h2; exact h2
      have hb := World.block_lt_of_cell? _ _ (h1 0 (by omega))
      have hb2 : b < w.heap.size := hb
      refine ⟨b, o, rfl, by omega, hb, fun k hk => ?_⟩
      rw [List.length_take, Nat.min_eq_left hle] at hk
      rw [h1 k (by omega), List.getD_eq_getElem?_getD, List.getD_eq_getElem?_getD, List.getElem?_take_of_lt hk]
/-- The cells of an Act. -/
structure ActIs (w : World) (cs : List Value) (what addr many wv : Int) (v : Value) (l : List Int) : Prop where
  cells : cs = [.int .u8 what, .int .u32 addr, .int .i64 many, .int .u32 wv, v]
  b0 : 0 ≤ what ∧ what < 256
  b1 : 0 ≤ addr ∧ addr < 4294967296
  b2 : -9223372036854775808 ≤ many ∧ many ≤ 9223372036854775807
  b3 : 0 ≤ wv ∧ wv < 4294967296
  len : l.length ≤ maxLen
  row : U32s (fun k => w.heap.size ≤ k) w v l
end
end Go.Proofs.YtgdebchbdmogcaaGreatDoor
/- The walk of muntinlaw05.MemWords: rows of words. -/
namespace Go.Proofs.YtgdebchbdmogcaaGreatDoor
open Go.RowKit
set_option linter.unusedVariables false
theorem load_put_before (l : List Int) : ∀ (d : List Int) (b a : Nat), a + 4 ≤ b → loadS (putS d b l) a 4 = loadS d a 4 := by
  induction l with
  | nil => intro d b a _; rfl
  | cons x l ih => intro d b a h; unfold putS; rw [ih _ _ _ (by omega), load_store_ne _ _ _ _ (by omega)]
theorem load_put (l : List Int) : ∀ (d : List Int) (a i : Nat), Words l → a + 4 * l.length ≤ d.length → i < l.length → loadS (putS d a l) (a + 4 * i) 4 = l.getD i 0 := by
  induction l with
  | nil => intro d a i _ _ hi; simp at hi
  | cons x l ih =>
    intro d a i hw hl hi
    simp at hl hi
    have hx := hw x (by simp)
    unfold putS
    cases i with
    | zero => rw [load_put_before _ _ _ _ (by omega)]; exact load_store _ _ _ (by omega) hx.1 hx.2
    | succ i => rw [show a + 4 * (i + 1) = a + 4 + 4 * i by omega, ih _ _ i (fun y hy => hw y (by simp [hy])) (by rw [storeS_len]; omega) (by omega)]; rfl
theorem words_put (l d : List Int) (a k : Nat) (hw : Words l) (hl : a + 4 * l.length ≤ d.length) (hk : k ≤ l.length) : wordsS (putS d a l) (a + 4 * k) (l.length - k) = l.drop k := by
  apply ext_getD (by rw [wordsS_len, List.length_drop])
  intro i hi
  rw [wordsS_len] at hi
  rw [wordsS_at _ _ _ _ hi, show a + 4 * k + 4 * i = a + 4 * (k + i) by omega, load_put l d a (k + i) hw hl (by omega)]
  simp [List.getD_eq_getElem?_getD]
theorem U32s.mono {S S' : Nat → Prop} {w : World} {v : Value} {l : List Int} (h : U32s S w v l) (hs : ∀ k, S' k → S k) : U32s S' w v l := by
  obtain ⟨h1, p, c, rfl, h2⟩ := h
  exact ⟨h1, p, c, rfl, fun h0 => by obtain ⟨b, o, rfl, h3, h4⟩ := h2 h0; exact ⟨b, o, rfl, fun q => h3 (hs _ q), h4⟩⟩
theorem U32s.keep {S T : Nat → Prop} {a b : World} {v : Value} {l : List Int} (h : U32s S a v l) (o : Only T a b) (hT : ∀ k, T k → k < a.heap.size → S k) : U32s S b v l := by
  obtain ⟨h1, p, c, rfl, h2⟩ := h
  refine ⟨h1, p, c, rfl, fun h0 => ?_⟩
  obtain ⟨k, e, rfl, h3, h4, h5⟩ := h2 h0
  exact ⟨k, e, rfl, h3, Nat.lt_of_lt_of_le h4 o.size, fun j hj => (o.cell (p := ⟨k, e + j, none⟩) h4 (fun q => h3 (hT _ q h4))).trans (h5 j hj)⟩
/-- A slice of words that came in, with its capacity. -/
theorem trod_row {H : Type} {enc : TypeId × Value → H} {w : World} {base : Nat} {spare : Nat → Bool} {held : Bool} {fuel : Nat} {x : DataW H × List MemPlace} {cs : List Value} (h : DataW.trod enc Tryz.prog w base spare held fuel 25 cs = some x) :
    ∃ p c l, cs = [.slice p l.length c] ∧ l.length ≤ maxLen ∧ l.length ≤ c ∧ U32s (fun k => w.heap.size ≤ k) w (.slice p l.length c) l := by
  obtain ⟨v, l, rfl, h1, h2⟩ := trod_u32s h
  obtain ⟨h3, p, c, rfl, h4⟩ := h2
  refine ⟨p, c, l, rfl, h1, ?_, h3, p, c, rfl, h4⟩
  rcases Go.ChangeShapes.open_ints Tryz.underlying25 Tryz.underlying22 cells_u32 h with ⟨hcs, _⟩ | ⟨a, len, cap, zs, hcs, _, hl, _⟩
  · simp at hcs; rw [hcs.2.1]; simp
  · simp at hcs; omega
end Go.Proofs.YtgdebchbdmogcaaGreatDoor
/- Resident windows. -/
namespace Go.Proofs.YtgdebchbdmogcaaGreatDoor
open Go.RowKit
set_option linter.unusedVariables false
set_option linter.unusedSimpArgs false
theorem info64 : (Tryz.prog.info? 3).map (fun i => (i.zero, i.size, i.bytes)) = some (some (.int .i64 0), 1, 8) := by kernel_rfl
def i64s (l : List Int) : List Value := l.map (.int .i64)
/-- The first windows from one on. -/
def resK (x nw : Int) (k : Nat) : List Int := (List.range k).map fun (i : Nat) => (x + (i : Int)) % nw
def resL (x fin nw : Int) : List Int := resK x nw ((fin - x) % nw).toNat
def resE (x wim nw : Int) : Int := if okW x nw then invE wim nw else 2
def resV (x wim nw : Int) : List Int := if okW x nw ∧ invE wim nw = 0 then resL x (invV wim nw) nw else []
theorem resK_succ (x nw : Int) (k : Nat) : resK x nw (k + 1) = resK x nw k ++ [(x + (k : Int)) % nw] := by
  unfold resK; rw [List.range_succ, List.map_append]; rfl
theorem resK_len (x nw : Int) (k : Nat) : (resK x nw k).length = k := by simp [resK]
theorem inv_bd {wim nw : Int} (h : invE wim nw = 0) : winP nw ∧ 0 ≤ invV wim nw ∧ invV wim nw < nw := by
  unfold invE at h
  by_cases hw : winP nw
  · rw [if_pos hw] at h
    refine ⟨hw, ?_⟩
    unfold invV
    rw [if_pos hw]
    cases hi : invO wim nw with
    | none => rw [hi] at h; simp at h
    | some k =>
      simp only
      have hk := List.mem_of_find?_eq_some hi
      simp only [List.mem_range] at hk
      omega
  · rw [if_neg hw] at h; omega
/-- A row of the call's own. -/
def TellsI (l : List Int) (er : Int) (w : World) (e : Ending) (w' : World) : Prop :=
  ∃ v, e = .returned (.tuple #[v, .int .i64 er]) ∧ w'.ownsRow w.heap.size 3 1 v l.length (i64s l) ∧ Below w.heap.size w w'
theorem res_step {x fin nw : Int} (hw : winP nw) (hf : 0 ≤ fin ∧ fin < nw) (hx : 0 ≤ x ∧ x < nw) (k : Nat) :
    (k < ((fin - x) % nw).toNat → (x + (k : Int)) % nw ≠ fin) ∧ (x + ((((fin - x) % nw).toNat : Nat) : Int)) % nw = fin ∧ (k ≤ ((fin - x) % nw).toNat → k < 32) ∧ ((x + (k : Int)) % nw + 1) % nw = (x + ((k + 1 : Nat) : Int)) % nw ∧ 0 ≤ (x + (k : Int)) % nw ∧ (x + (k : Int)) % nw < nw := by
  obtain ⟨hw1, hw2⟩ := hw
  have hm := Int.emod_nonneg (fin - x) (by omega : nw ≠ 0)
  have hm2 := Int.emod_lt_of_pos (fin - x) (by omega : 0 < nw)
  have e1 : (x + ((((fin - x) % nw).toNat : Nat) : Int)) % nw = fin := by
    rw [Int.toNat_of_nonneg hm, Int.add_emod, Int.emod_emod_of_dvd _ (Int.dvd_refl _), ← Int.add_emod]
    rw [show x + (fin - x) = fin by omega]
    exact Int.emod_eq_of_lt hf.1 hf.2
  refine ⟨fun hk h => ?_, e1, fun hk => by omega, ?_, Int.emod_nonneg _ (by omega), Int.emod_lt_of_pos _ (by omega)⟩
  · -- two numbers below nw with the same remainder are the same
    have h2 : (fin - x) % nw = (k : Int) := by
      rw [← h, Int.sub_emod, Int.emod_emod_of_dvd _ (Int.dvd_refl _), ← Int.sub_emod]
      rw [show x + (k : Int) - x = (k : Int) by omega]
      exact Int.emod_eq_of_lt (by omega) (by omega)
    omega
  · rw [Int.add_emod, Int.emod_emod_of_dvd _ (Int.dvd_refl _), ← Int.add_emod]
    congr 1
    omega
theorem res_meas {x fin nw : Int} (hw : winP nw) (k : Nat) (hk : k ≤ ((fin - x) % nw).toNat) : ((fin - (x + (k : Int)) % nw) % nw).toNat = ((fin - x) % nw).toNat - k := by
  obtain ⟨hw1, hw2⟩ := hw
  have hm := Int.emod_nonneg (fin - x) (by omega : nw ≠ 0)
  have hm2 := Int.emod_lt_of_pos (fin - x) (by omega : 0 < nw)
  have e1 := Int.mul_ediv_add_emod (fin - x) nw
  have e2 := Int.mul_ediv_add_emod (x + (k : Int)) nw
  have e3 : fin - (x + (k : Int)) % nw = ((fin - x) % nw - (k : Int)) + nw * ((fin - x) / nw + (x + (k : Int)) / nw) := by
    rw [Int.mul_add]; omega
  rw [e3, Int.add_mul_emod_self_left, Int.emod_eq_of_lt (by omega) (by omega)]
  omega
theorem own_nil64 (w : World) (b : Nat) : w.ownsRow b 3 1 (.slice none 0 0) ([] : List Int).length (i64s []) := World.ownsRow_nil w b _ _
end Go.Proofs.YtgdebchbdmogcaaGreatDoor
/- The document's windows (muntinref04). -/
namespace Go.Proofs.YtgdebchbdmogcaaGreatDoor
open Go.RowKit
set_option linter.unusedVariables false
set_option linter.unusedSimpArgs false
/-- Whether one may ask for a window: three ways. -/
theorem okW_cases (x nw : Int) : (¬ winP nw ∧ ¬ okW x nw) ∨ (winP nw ∧ x < 0 ∧ ¬ okW x nw) ∨ (winP nw ∧ 0 ≤ x ∧ nw ≤ x ∧ ¬ okW x nw) ∨ (winP nw ∧ 0 ≤ x ∧ x < nw ∧ okW x nw) := by
  by_cases hw : winP nw
  · by_cases h0 : x < 0
    · exact .inr (.inl ⟨hw, h0, fun h => by have := h.2.1; omega⟩)
    · by_cases h1 : nw ≤ x
      · exact .inr (.inr (.inl ⟨hw, by omega, h1, fun h => by have := h.2.2; omega⟩))
      · exact .inr (.inr (.inr ⟨hw, by omega, by omega, hw, by omega, by omega⟩))
  · exact .inl ⟨hw, fun h => hw h.1⟩
end Go.Proofs.YtgdebchbdmogcaaGreatDoor
/- The document's Invalid, Resident and Same (muntinref04). -/
namespace Go.Proofs.YtgdebchbdmogcaaGreatDoor
open Go.RowKit
set_option linter.unusedVariables false
set_option linter.unusedSimpArgs false
theorem pcell_of_obj {w : World} {g i : Nat} {c : Array Value} {t : TypeId} {fz : Nat × Nat} (h : w.heap[g]? = some (.cells c t fz)) : w.cell? ⟨g, i, none⟩ = c[i]? := by
  simp [World.cell?, h]
theorem pret_val {a b : Value} (h : a = b) : Ending.returned a = .returned b := by rw [h]
/-- A row of numbers, as it is read. -/
def ReadsI (w : World) (v : Value) (l : List Int) : Prop :=
  l.length ≤ maxLen ∧ ∃ p c, v = .slice p l.length c ∧ (0 < l.length → ∃ b o, p = some ⟨b, o, none⟩ ∧ ∀ k, k < l.length → w.cell? ⟨b, o + k, none⟩ = some (.int .i64 (l.getD k 0)))
theorem ReadsI.shape {w : World} {v : Value} {l : List Int} (h : ReadsI w v l) : ∃ b o p c, v = .slice p l.length c ∧ l.length ≤ maxLen ∧ (0 < l.length → p = some ⟨b, o, none⟩) ∧ ∀ k, k < l.length → w.cell? ⟨b, o + k, none⟩ = some (.int .i64 (l.getD k 0)) := by
  obtain ⟨h1, p, c, rfl, h2⟩ := h
  by_cases h0 : 0 < l.length
  · obtain ⟨b, o, rfl, h3⟩ := h2 h0
    exact ⟨b, o, _, c, rfl, h1, fun _ => rfl, h3⟩
  · exact ⟨0, 0, p, c, rfl, h1, fun h => absurd h h0, fun k hk => by omega⟩
theorem ReadsI.of_own {w : World} {base : Nat} {v : Value} {l : List Int} (h : w.ownsRow base 3 1 v l.length (i64s l)) : ReadsI w v l := by
  rcases h.2 with ⟨h1, h2⟩ | ⟨g, cap, cur, h1, h2, h3, h4, h5, h6, h7⟩
  · obtain rfl := List.length_eq_zero_iff.1 h2
    exact ⟨by unfold maxLen; simp, none, 0, h1, fun h => by simp at h⟩
  · refine ⟨by omega, _, cap, h1, fun _ => ⟨g, 0, rfl, fun k hk => ?_⟩⟩
    rw [Nat.zero_add, pcell_of_obj h3]
    have e : cur[k]? = (cur.toList.take (l.length * 1))[k]? := by
      rw [List.getElem?_take_of_lt (by omega)]; simp
    rw [e, h7]
    simp [i64s, hk]
end Go.Proofs.YtgdebchbdmogcaaGreatDoor
/- The walk of muntinlaw04.head: the calls whose answers the document fixes. -/
namespace Go.Proofs.YtgdebchbdmogcaaGreatDoor
open Go.RowKit
set_option linter.unusedVariables false
set_option linter.unusedSimpArgs false
/-- A state in a box. -/
structure BoxP (w : World) (b : Nat) (x : Px) : Prop where
  c0 : w.cell? ⟨b, 0, none⟩ = some (.int .u8 x.cwp)
  c1 : w.cell? ⟨b, 1, none⟩ = some (.int .u8 x.pil)
  c2 : w.cell? ⟨b, 2, none⟩ = some (.int .u8 x.bank)
  c3 : w.cell? ⟨b, 3, none⟩ = some (.int .u8 x.flags)
theorem BoxP.new (w : World) (x : Px) : BoxP (w.alloc (.cells #[.int .u8 x.cwp, .int .u8 x.pil, .int .u8 x.bank, .int .u8 x.flags] 24)) w.heap.size x :=
  ⟨by simp, by simp, by simp, by simp⟩
theorem BoxP.lt {w : World} {b : Nat} {x : Px} (h : BoxP w b x) : b < w.heap.size := World.block_lt_of_cell? _ _ h.c0
theorem BoxP.keep {w w' : World} {b : Nat} {x : Px} (h : BoxP w b x) (hb : Below w.heap.size w w') : BoxP w' b x :=
  have hl := h.lt
  ⟨(hb.cell (p := ⟨b, 0, none⟩) hl).trans h.c0, (hb.cell (p := ⟨b, 1, none⟩) hl).trans h.c1, (hb.cell (p := ⟨b, 2, none⟩) hl).trans h.c2, (hb.cell (p := ⟨b, 3, none⟩) hl).trans h.c3⟩
theorem BoxP.al {w : World} {b : Nat} {x : Px} (h : BoxP w b x) (o : Obj) : BoxP (w.alloc o) b x := h.keep (pbal w o)
theorem ReadsI.keep {a b : World} {v : Value} {l : List Int} (h : ReadsI a v l) (hb : Below a.heap.size a b) : ReadsI b v l := by
  obtain ⟨h1, p, c, rfl, h2⟩ := h
  refine ⟨h1, p, c, rfl, fun h0 => ?_⟩
  obtain ⟨k, o, rfl, h3⟩ := h2 h0
  exact ⟨k, o, rfl, fun j hj => (hb.cell (World.block_lt_of_cell? _ _ (h3 j hj))).trans (h3 j hj)⟩
theorem lit_reads (w : World) (l : List Int) (hl : l.length ≤ maxLen) : ReadsI (w.alloc (.cells (l.map (Value.int .i64)).toArray 3)) (.slice (some ⟨w.heap.size, 0, none⟩) l.length l.length) l := by
  refine ⟨hl, _, _, rfl, fun _ => ⟨w.heap.size, 0, rfl, fun k hk => ?_⟩⟩
  simp [hk]
end Go.Proofs.YtgdebchbdmogcaaGreatDoor
/- How an argument of type api.Psr is read; the table of math/bits. -/
namespace Go.Proofs.YtgdebchbdmogcaaGreatDoor
open Go.RowKit Go.ChangeShapes Go.WideShapes Go.ChangeAt
set_option linter.unusedVariables false
theorem bru_of {W : World} (h : ∀ i (hi : i < ([0, 1, 28, 2, 29, 14, 24, 3, 30, 22, 20, 15, 25, 17, 4, 8, 31, 27, 13, 23, 21, 19, 16, 7, 26, 12, 18, 6, 11, 5, 10, 9] : List Int).length), W.cell? ⟨0, i, none⟩ = some (.int .u8 (([0, 1, 28, 2, 29, 14, 24, 3, 30, 22, 20, 15, 25, 17, 4, 8, 31, 27, 13, 23, 21, 19, 16, 7, 26, 12, 18, 6, 11, 5, 10, 9] : List Int).getD i 0))) : Bru W := fun i hi => h i (by simpa using hi)
theorem pcells_u8 : Tryz.prog.cellsOf 5 = 1 := by kernel_rfl
theorem pcells_psr : Tryz.prog.cellsOf 24 = 4 := by kernel_rfl
theorem list4 {α : Type} {l : List α} (h : l.length = 4) : ∃ a b c d, l = [a, b, c, d] := by
  match l, h with
  | [a, b, c, d], _ => exact ⟨a, b, c, d, rfl⟩
set_option maxRecDepth 100000 in
theorem trod_psr {H : Type} {enc : TypeId × Value → H} {w : World} {base : Nat} {spare : Nat → Bool} {held : Bool} {fuel : Nat} {x : DataW H × List MemPlace} {cs : List Value} (h : DataW.trod enc Tryz.prog w base spare held fuel 24 cs = some x) :
    ∃ y : Px, y.bd ∧ cs = [.int .u8 y.cwp, .int .u8 y.pil, .int .u8 y.bank, .int .u8 y.flags] := by
  obtain ⟨xs, n, _, rfl, hl, hlen, hf⟩ := DataW.trod_struct Tryz.underlying24 h
  rw [pcells_psr] at hl
  obtain ⟨c0, c1, c2, c3, rfl⟩ := list4 hl
  obtain ⟨y0, y1, y2, y3, rfl⟩ := list4 hlen
  have h0 := hf 0 _ rfl
  have h1 := hf 1 _ rfl
  have h2 := hf 2 _ rfl
  have h3 := hf 3 _ rfl
  simp [pcells_u8] at h0 h1 h2 h3
  obtain ⟨a0, e0, _, w0⟩ := DataW.trod_int Tryz.underlying5 h0
  obtain ⟨a1, e1, _, w1⟩ := DataW.trod_int Tryz.underlying5 h1
  obtain ⟨a2, e2, _, w2⟩ := DataW.trod_int Tryz.underlying5 h2
  obtain ⟨a3, e3, _, w3⟩ := DataW.trod_int Tryz.underlying5 h3
  simp at e0 e1 e2 e3
  have b0 := bounds_u8 w0
  have b1 := bounds_u8 w1
  have b2 := bounds_u8 w2
  have b3 := bounds_u8 w3
  exact ⟨⟨a0, a1, a2, a3⟩, ⟨by simp only; omega, by simp only; omega, by simp only; omega, by simp only; omega⟩, by rw [e0, e1, e2, e3]⟩
set_option maxRecDepth 100000 in
theorem open_psr {H : Type} {enc : TypeId × Value → H} {W : World} {base b : Nat} {spare : Nat → Bool} {held : Bool} {r : Reach} {v : Value} {d : DataW H} {p : List MemPlace} (hv : Value.okWide Tryz.prog W r b 24 v) (h : DataW.Trod enc Tryz.prog W base spare held 24 v d p) :
    ∃ x : Px, x.bd ∧ v = x.agg := by
  obtain ⟨cs, rfl, hsz⟩ := okWide_struct Tryz.underlying24 hv
  obtain ⟨m, hm⟩ := h
  obtain ⟨y, hb, he⟩ := trod_psr (by simpa [Value.cells] using hm)
  refine ⟨y, hb, ?_⟩
  congr 1
  apply Array.toList_inj.1
  rw [he]
end Go.Proofs.YtgdebchbdmogcaaGreatDoor
/- How an argument of type api.Inst is read; the table of what operations have. -/
namespace Go.Proofs.YtgdebchbdmogcaaGreatDoor
open Go.RowKit Go.ChangeShapes Go.WideShapes Go.ChangeAt
set_option linter.unusedVariables false
set_option maxRecDepth 100000 in
theorem tab_of {W : World} (h : ∀ i (hi : i < ([128, 7, 7, 7, 7, 7, 7, 7, 7, 7, 7, 7, 7, 7, 7, 25, 6, 25, 24, 7, 7, 7, 7, 7, 7, 7, 1, 6, 1, 6, 9, 10, 0, 8, 1, 2, 2, 8] : List Int).length), W.cell? ⟨1, i, none⟩ = some (.int .u8 (([128, 7, 7, 7, 7, 7, 7, 7, 7, 7, 7, 7, 7, 7, 7, 25, 6, 25, 24, 7, 7, 7, 7, 7, 7, 7, 1, 6, 1, 6, 9, 10, 0, 8, 1, 2, 2, 8] : List Int).getD i 0))) : Tab W := by
  intro i hi
  have hall : ∀ j : Fin 38, ([128, 7, 7, 7, 7, 7, 7, 7, 7, 7, 7, 7, 7, 7, 7, 25, 6, 25, 24, 7, 7, 7, 7, 7, 7, 7, 1, 6, 1, 6, 9, 10, 0, 8, 1, 2, 2, 8] : List Int).getD j.val 0 = hasK (kindS (j.val : Int)) := by decide
  have h1 := h i (by simpa using hi)
  rw [h1]
  exact congrArg (fun n => some (Value.int .u8 n)) (hall ⟨i, hi⟩)
theorem icells_u8 : Tryz.prog.cellsOf 5 = 1 := by kernel_rfl
theorem icells_bool : Tryz.prog.cellsOf 4 = 1 := by kernel_rfl
theorem icells_i32 : Tryz.prog.cellsOf 21 = 1 := by kernel_rfl
theorem icells_inst : Tryz.prog.cellsOf 65 = 6 := by kernel_rfl
theorem list6 {α : Type} {l : List α} (h : l.length = 6) : ∃ a b c d e f, l = [a, b, c, d, e, f] := by
  match l, h with
  | [a, b, c, d, e, f], _ => exact ⟨a, b, c, d, e, f, rfl⟩
set_option maxRecDepth 100000 in
theorem trod_inst {H : Type} {enc : TypeId × Value → H} {w : World} {base : Nat} {spare : Nat → Bool} {held : Bool} {fuel : Nat} {x : DataW H × List MemPlace} {cs : List Value} (h : DataW.trod enc Tryz.prog w base spare held fuel 65 cs = some x) :
    ∃ y : Ix, y.bd ∧ cs = [.int .u8 y.op, .int .u8 y.rd, .int .u8 y.rs1, .int .u8 y.rs2, .bool y.is, .int .i32 y.imm] := by
  obtain ⟨xs, n, _, rfl, hl, hlen, hf⟩ := DataW.trod_struct Tryz.underlying65 h
  rw [icells_inst] at hl
  obtain ⟨c0, c1, c2, c3, c4, c5, rfl⟩ := list6 hl
  obtain ⟨y0, y1, y2, y3, y4, y5, rfl⟩ := list6 hlen
  have h0 := hf 0 _ rfl
  have h1 := hf 1 _ rfl
  have h2 := hf 2 _ rfl
  have h3 := hf 3 _ rfl
  have h4 := hf 4 _ rfl
  have h5 := hf 5 _ rfl
  simp [icells_u8, icells_bool, icells_i32] at h0 h1 h2 h3 h4 h5
  obtain ⟨a0, e0, _, w0⟩ := DataW.trod_int Tryz.underlying5 h0
  obtain ⟨a1, e1, _, w1⟩ := DataW.trod_int Tryz.underlying5 h1
  obtain ⟨a2, e2, _, w2⟩ := DataW.trod_int Tryz.underlying5 h2
  obtain ⟨a3, e3, _, w3⟩ := DataW.trod_int Tryz.underlying5 h3
  obtain ⟨a4, e4, _⟩ := DataW.trod_bool Tryz.underlying4 h4
  obtain ⟨a5, e5, _, w5⟩ := DataW.trod_int Tryz.underlying21 h5
  simp at e0 e1 e2 e3 e4 e5
  have b0 := bounds_u8 w0
  have b1 := bounds_u8 w1
  have b2 := bounds_u8 w2
  have b3 := bounds_u8 w3
  have b5 := bounds_i32 w5
  exact ⟨⟨a0, a1, a2, a3, a4, a5⟩, ⟨by simp only; omega, by simp only; omega, by simp only; omega, by simp only; omega, by simp only; omega⟩, by rw [e0, e1, e2, e3, e4, e5]⟩
set_option maxRecDepth 100000 in
theorem open_inst {H : Type} {enc : TypeId × Value → H} {W : World} {base b : Nat} {spare : Nat → Bool} {held : Bool} {r : Reach} {v : Value} {d : DataW H} {p : List MemPlace} (hv : Value.okWide Tryz.prog W r b 65 v) (h : DataW.Trod enc Tryz.prog W base spare held 65 v d p) :
    ∃ x : Ix, x.bd ∧ v = x.agg := by
  obtain ⟨cs, rfl, hsz⟩ := okWide_struct Tryz.underlying65 hv
  obtain ⟨m, hm⟩ := h
  obtain ⟨y, hb, he⟩ := trod_inst (by simpa [Value.cells] using hm)
  refine ⟨y, hb, ?_⟩
  congr 1
  apply Array.toList_inj.1
  rw [he]
end Go.Proofs.YtgdebchbdmogcaaGreatDoor
/- How an argument of type muntinlaw06.Start is read. -/
namespace Go.Proofs.YtgdebchbdmogcaaGreatDoor
open Go.RowKit Go.ChangeShapes Go.WideShapes Go.ChangeAt
set_option linter.unusedVariables false
set_option linter.unusedSimpArgs false
/-- A register that is set. -/
structure Rg where
  win : Int
  bank : Int
  reg : Int
  w : Int
def Rg.bd (x : Rg) : Prop := (-9223372036854775808 ≤ x.win ∧ x.win ≤ 9223372036854775807) ∧ (-9223372036854775808 ≤ x.bank ∧ x.bank ≤ 9223372036854775807) ∧ (-9223372036854775808 ≤ x.reg ∧ x.reg ≤ 9223372036854775807) ∧ 0 ≤ x.w ∧ x.w < 4294967296
structure RgAt (w : World) (b o : Nat) (x : Rg) : Prop where
  c0 : w.cell? ⟨b, o, none⟩ = some (.int .i64 x.win)
  c1 : w.cell? ⟨b, o + 1, none⟩ = some (.int .i64 x.bank)
  c2 : w.cell? ⟨b, o + 2, none⟩ = some (.int .i64 x.reg)
  c3 : w.cell? ⟨b, o + 3, none⟩ = some (.int .u32 x.w)
  bd : x.bd
def RegsIn (w : World) (v : Value) (l : List Rg) : Prop :=
  l.length ≤ maxLen ∧ ∃ p c b o, v = .slice p l.length c ∧ (0 < l.length → p = some ⟨b, o, none⟩) ∧ ∀ k x, l[k]? = some x → RgAt w b (o + k * 4) x
def WordsIn (w : World) (v : Value) (l : List Int) : Prop :=
  U32s (fun k => w.heap.size ≤ k) w v l ∧ l.length ≤ maxLen ∧ ∀ p n c, v = .slice p n c → n ≤ c ∧ (p = none → c = 0)
/-- How a machine begins. -/
structure StartX where
  nw : Int
  size : Int
  pc : Int
  q : Px
  wim : Int
  words : List Int
  regs : List Rg
  ch : List Int
/-- A start's cells. -/
def startC (nw size pc : Int) (q : Px) (wim : Int) (vw vr vc : Value) : List Value := [.int .i64 nw, .int .i64 size, .int .u32 pc, .int .u8 q.cwp, .int .u8 q.pil, .int .u8 q.bank, .int .u8 q.flags, .int .u32 wim, vw, vr, vc]
structure StartIn (w : World) (v : Value) (x : StartX) : Prop where
  nw : -9223372036854775808 ≤ x.nw ∧ x.nw ≤ 9223372036854775807
  size : -9223372036854775808 ≤ x.size ∧ x.size ≤ 9223372036854775807
  pc : 0 ≤ x.pc ∧ x.pc < 4294967296
  q : x.q.bd
  wim : 0 ≤ x.wim ∧ x.wim < 4294967296
  rows : ∃ vw vr vc, v = .agg (startC x.nw x.size x.pc x.q x.wim vw vr vc).toArray ∧ WordsIn w vw x.words ∧ RegsIn w vr x.regs ∧ WordsIn w vc x.ch
theorem RgAt.keepb {w w' : World} {b o : Nat} {x : Rg} (h : RgAt w b o x) (hb : Below w.heap.size w w') : RgAt w' b o x := by
  have hl := World.block_lt_of_cell? _ _ h.c0
  exact ⟨(hb.cell (p := ⟨b, o, none⟩) hl).trans h.c0, (hb.cell (p := ⟨b, o + 1, none⟩) hl).trans h.c1, (hb.cell (p := ⟨b, o + 2, none⟩) hl).trans h.c2, (hb.cell (p := ⟨b, o + 3, none⟩) hl).trans h.c3, h.bd⟩
theorem RegsIn.keepb {w w' : World} {v : Value} {l : List Rg} (h : RegsIn w v l) (hb : Below w.heap.size w w') : RegsIn w' v l := by
  obtain ⟨h1, p, c, b, o, h2, h3, h4⟩ := h
  exact ⟨h1, p, c, b, o, h2, h3, fun k x hx => (h4 k x hx).keepb hb⟩
theorem WordsIn.keepb {w w' : World} {v : Value} {l : List Int} (h : WordsIn w v l) (hb : Below w.heap.size w w') : WordsIn w' v l := by
  obtain ⟨⟨h1, p, c, rfl, h2⟩, h3, h4⟩ := h
  refine ⟨⟨h1, p, c, rfl, fun h0 => ?_⟩, h3, h4⟩
  obtain ⟨b, o, rfl, h5, h6, h7⟩ := h2 h0
  exact ⟨b, o, rfl, Nat.not_le.2 (Nat.lt_of_lt_of_le h6 hb.size), Nat.lt_of_lt_of_le h6 hb.size, fun k hk => (hb.cell (p := ⟨b, o + k, none⟩) h6).trans (h7 k hk)⟩
theorem StartIn.keepb {w w' : World} {v : Value} {x : StartX} (h : StartIn w v x) (hb : Below w.heap.size w w') : StartIn w' v x := by
  obtain ⟨a, b, c, d, e, vw, vr, vc, h1, h2, h3, h4⟩ := h
  exact ⟨a, b, c, d, e, vw, vr, vc, h1, h2.keepb hb, h3.keepb hb, h4.keepb hb⟩
theorem mlist_of {α : Type} (P : Nat → α → Prop) : ∀ n, (∀ i, i < n → ∃ y, P i y) → ∃ l : List α, l.length = n ∧ ∀ k y, l[k]? = some y → P k y := by
  intro n
  induction n with
  | zero => intro _; exact ⟨[], rfl, fun k y h => by simp at h⟩
  | succ n ih =>
    intro h
    obtain ⟨l, hl, hp⟩ := ih (fun i hi => h i (by omega))
    obtain ⟨y, hy⟩ := h n (by omega)
    refine ⟨l ++ [y], by simp [hl], fun k z hz => ?_⟩
    by_cases hk : k < l.length
    · rw [List.getElem?_append_left hk] at hz; exact hp k z hz
    · rw [List.getElem?_append_right (by omega)] at hz
      have : k - l.length = 0 := by
        rcases Nat.eq_zero_or_pos (k - l.length) with e | e
        · exact e
        · rw [List.getElem?_eq_none (by simp; omega)] at hz; cases hz
      rw [this] at hz
      cases hz
      obtain rfl : k = n := by omega
      exact hy
theorem maddr_add (b o n : Nat) : (⟨b, o, none⟩ : Addr).add n = ⟨b, o + n, none⟩ := by unfold Addr.add; split <;> simp [*]
theorem mcells_each {w : World} {base : Nat} {a : Addr} {n : Nat} {cs : List Value} (h : w.cells? base a n = some cs) : cs.length = n ∧ ∀ j u, cs[j]? = some u → w.cell? (a.add j) = some u := by
  obtain ⟨_, h1, h2⟩ := World.cells?_some h
  refine ⟨h1, fun j u hu => ?_⟩
  have hj : j < n := by
    rcases Nat.lt_or_ge j n with h3 | h3
    · exact h3
    · rw [List.getElem?_eq_none (by omega)] at hu; cases hu
  have := h2 j hj
  rw [this]; exact hu
section
variable {H : Type} {enc : TypeId × Value → H} {w : World} {base : Nat} {spare : Nat → Bool} {held : Bool} {fuel : Nat} {x : DataW H × List MemPlace}
theorem trod_wordsin {cs : List Value} (h : DataW.trod enc Tryz.prog w base spare held fuel 25 cs = some x) : ∃ v l, cs = [v] ∧ WordsIn w v l := by
  obtain ⟨p, c, l, rfl, h1, h2, h3⟩ := trod_row h
  refine ⟨_, l, rfl, h3, h1, fun p' n' c' e => ?_⟩
  cases e
  refine ⟨h2, fun e => ?_⟩
  subst e
  rcases Go.Deep.open_slice Tryz.underlying25 h with ⟨hh, _⟩ | ⟨a, len, cap, m, q, D, Pl, hh, _⟩
  · simp at hh; exact hh.2
  · simp at hh
theorem mc_int : Tryz.prog.cellsOf 3 = 1 := by kernel_rfl
theorem mc_u32 : Tryz.prog.cellsOf 22 = 1 := by kernel_rfl
theorem mc_reg : Tryz.prog.cellsOf 78 = 4 := by kernel_rfl
theorem mc_psr : Tryz.prog.cellsOf 24 = 4 := by kernel_rfl
theorem mc_words : Tryz.prog.cellsOf 25 = 1 := by kernel_rfl
theorem mc_regs : Tryz.prog.cellsOf 26 = 1 := by kernel_rfl
theorem mc_start : Tryz.prog.cellsOf 28 = 11 := by kernel_rfl
theorem mlist4 {α : Type} {l : List α} (h : l.length = 4) : ∃ a b c d, l = [a, b, c, d] := by
  match l, h with
  | [a, b, c, d], _ => exact ⟨a, b, c, d, rfl⟩
theorem mlist11 {α : Type} {l : List α} (h : l.length = 11) : ∃ a b c d e f g i j k m, l = [a, b, c, d, e, f, g, i, j, k, m] := by
  match l, h with
  | [a, b, c, d, e, f, g, i, j, k, m], _ => exact ⟨a, b, c, d, e, f, g, i, j, k, m, rfl⟩
theorem mlist8 {α : Type} {l : List α} (h : l.length = 8) : ∃ a b c d e f g i, l = [a, b, c, d, e, f, g, i] := by
  match l, h with
  | [a, b, c, d, e, f, g, i], _ => exact ⟨a, b, c, d, e, f, g, i, rfl⟩
set_option maxRecDepth 100000 in
theorem trod_reg {cs : List Value} (h : DataW.trod enc Tryz.prog w base spare held fuel 78 cs = some x) :
    ∃ y : Rg, y.bd ∧ cs = [.int .i64 y.win, .int .i64 y.bank, .int .i64 y.reg, .int .u32 y.w] := by
  obtain ⟨xs, n, _, rfl, hl, hlen, hf⟩ := DataW.trod_struct Tryz.underlying78 h
  rw [mc_reg] at hl
  obtain ⟨c0, c1, c2, c3, rfl⟩ := mlist4 hl
  obtain ⟨y0, y1, y2, y3, rfl⟩ := mlist4 hlen
  have h0 := hf 0 _ rfl
  have h1 := hf 1 _ rfl
  have h2 := hf 2 _ rfl
  have h3 := hf 3 _ rfl
  simp [mc_int, mc_u32] at h0 h1 h2 h3
  obtain ⟨a0, e0, _, w0⟩ := DataW.trod_int Tryz.underlying3 h0
  obtain ⟨a1, e1, _, w1⟩ := DataW.trod_int Tryz.underlying3 h1
  obtain ⟨a2, e2, _, w2⟩ := DataW.trod_int Tryz.underlying3 h2
  obtain ⟨a3, e3, _, w3⟩ := DataW.trod_int Tryz.underlying22 h3
  simp at e0 e1 e2 e3
  have b0 := bounds_i64 w0
  have b1 := bounds_i64 w1
  have b2 := bounds_i64 w2
  have b3 := bounds_u32 w3
  exact ⟨⟨a0, a1, a2, a3⟩, ⟨by simp only; omega, by simp only; omega, by simp only; omega, by simp only; omega⟩, by rw [e0, e1, e2, e3]⟩
theorem trod_regs {cs : List Value} (h : DataW.trod enc Tryz.prog w base spare held fuel 26 cs = some x) : ∃ v l, cs = [v] ∧ RegsIn w v l := by
  rcases Go.Deep.open_slice Tryz.underlying26 h with ⟨rfl, _⟩ | ⟨a, len, cap, m, q, D, Pl, rfl, _, hl, hm, hmm, hx, hel⟩
  · exact ⟨_, [], rfl, by simp, none, 0, 0, 0, rfl, fun h => by simp at h, fun k y h => by simp at h⟩
  · have hlm : len ≤ m := by rw [hmm]; split <;> omega
    have each : ∀ i, i < len → ∃ y : Rg, y.bd ∧ ∀ j u, [Value.int .i64 y.win, .int .i64 y.bank, .int .i64 y.reg, .int .u32 y.w][j]? = some u → w.cell? ((a.add (i * 4)).add j) = some u := by
      intro i hi
      obtain ⟨cs', h1, h2⟩ := hel i (by omega)
      rw [mc_reg] at h1
      obtain ⟨y, hb, rfl⟩ := trod_reg h2
      exact ⟨y, hb, (mcells_each h1).2⟩
    obtain ⟨l, hll, hlp⟩ := mlist_of _ len each
    subst hll
    refine ⟨_, l, rfl, by omega, some a, cap, ?_⟩
    by_cases h0 : 0 < l.length
    · obtain ⟨b, o, sp⟩ := a
      have hsp2 : sp = none := by
        have := World.cell?_spot ((hlp 0 l[0] (List.getElem?_eq_getElem h0)).2 0 _ rfl)
        simpa [Addr.add] using this
      subst hsp2
      refine ⟨b, o, rfl, fun _ => rfl, fun k y hy => ?_⟩
      obtain ⟨hb, hc⟩ := hlp k y hy
      have hcc : ∀ j u, [Value.int .i64 y.win, .int .i64 y.bank, .int .i64 y.reg, .int .u32 y.w][j]? = some u → w.cell? ⟨b, o + k * 4 + j, none⟩ = some u := fun j u hu => by
        have := hc j u hu
        rw [maddr_add, maddr_add] at this
        exact this
      exact ⟨hcc 0 _ rfl, hcc 1 _ rfl, hcc 2 _ rfl, hcc 3 _ rfl, hb⟩
    · exact ⟨0, 0, rfl, fun h => absurd h h0, fun k y hy => by have h1 : l = [] := List.eq_nil_of_length_eq_zero (by omega); rw [h1] at hy; simp at hy⟩
set_option maxRecDepth 100000 in
theorem trod_start {cs : List Value} (h : DataW.trod enc Tryz.prog w base spare held fuel 28 cs = some x) :
    ∃ y : StartX, StartIn w (.agg cs.toArray) y := by
  obtain ⟨xs, n, _, rfl, hl, hlen, hf⟩ := DataW.trod_struct Tryz.underlying28 h
  rw [mc_start] at hl
  obtain ⟨c0, c1, c2, c3, c4, c5, c6, c7, c8, c9, c10, rfl⟩ := mlist11 hl
  obtain ⟨y0, y1, y2, y3, y4, y5, y6, y7, rfl⟩ := mlist8 hlen
  have h0 := hf 0 _ rfl
  have h1 := hf 1 _ rfl
  have h2 := hf 2 _ rfl
  have h3 := hf 3 _ rfl
  have h4 := hf 4 _ rfl
  have h5 := hf 5 _ rfl
  have h6 := hf 6 _ rfl
  have h7 := hf 7 _ rfl
  simp [mc_int, mc_u32, mc_psr, mc_words, mc_regs] at h0 h1 h2 h3 h4 h5 h6 h7
  obtain ⟨a0, e0, _, w0⟩ := DataW.trod_int Tryz.underlying3 h0
  obtain ⟨a1, e1, _, w1⟩ := DataW.trod_int Tryz.underlying3 h1
  obtain ⟨a2, e2, _, w2⟩ := DataW.trod_int Tryz.underlying22 h2
  obtain ⟨q, hq, e3⟩ := trod_psr h3
  obtain ⟨a4, e4, _, w4⟩ := DataW.trod_int Tryz.underlying22 h4
  obtain ⟨v5, l5, e5, r5⟩ := trod_wordsin h5
  obtain ⟨v6, l6, e6, r6⟩ := trod_regs h6
  obtain ⟨v7, l7, e7, r7⟩ := trod_wordsin h7
  simp at e0 e1 e2 e3 e4 e5 e6 e7
  have b0 := bounds_i64 w0
  have b1 := bounds_i64 w1
  have b2 := bounds_u32 w2
  have b4 := bounds_u32 w4
  refine ⟨⟨a0, a1, a2, q, a4, l5, l6, l7⟩, by simp only; omega, by simp only; omega, by simp only; omega, hq, by simp only; omega, v5, v6, v7, ?_, r5, r6, r7⟩
  obtain ⟨e3, e31, e32, e33⟩ := e3
  subst e0 e1 e2 e3 e31 e32 e33 e4 e5 e6 e7
  rfl
end
set_option maxRecDepth 100000 in
theorem open_start {H : Type} {enc : TypeId × Value → H} {W : World} {base b : Nat} {spare : Nat → Bool} {held : Bool} {r : Reach} {v : Value} {d : DataW H} {p : List MemPlace} (hv : Value.okWide Tryz.prog W r b 28 v) (h : DataW.Trod enc Tryz.prog W base spare held 28 v d p) :
    ∃ x : StartX, StartIn W v x := by
  obtain ⟨cs, rfl, hsz⟩ := okWide_struct Tryz.underlying28 hv
  obtain ⟨m, hm⟩ := h
  obtain ⟨y, hy⟩ := trod_start (by simpa [Value.cells] using hm)
  exact ⟨y, by simpa using hy⟩
end Go.Proofs.YtgdebchbdmogcaaGreatDoor
