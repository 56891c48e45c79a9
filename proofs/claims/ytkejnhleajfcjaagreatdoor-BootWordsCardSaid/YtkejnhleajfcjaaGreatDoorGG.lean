/- Several texts in one: BootSpec, BootLst, PsrSpec, PsrWalks, PsrBits, PsrWin, WindA. -/
import Derived.Test.YtkejnhleajfcjaaGreatDoorGD
import Derived.Test.YtkejnhleajfcjaaGreatDoorGF
import Derived.WalkKit
import Derived.Test.YtkejnhleajfcjaaGreatDoorProg
import Derived.WalkSpells
import Derived.WalkLawsBesides
import Derived.RegionTactic
import Derived.Outline
import Derived.Deep.QuietTactic
import Derived.BigQuiet
import Derived.Handy
import Derived.Lib.BitFns
import Derived.Deep.Cut
/- What the runtime's handlers are: plain lists of instructions. No program in sight. -/
namespace Go.Proofs.YtkejnhleajfcjaaGreatDoor
open Go.RowKit
set_option linter.unusedVariables false
theorem bparts_may {rd w : Int} (r0 : 0 ≤ rd) (r1 : rd ≤ 31) (h0 : 0 ≤ w) (h1 : w < 4294967296) : ∀ x ∈ partsS rd w, mayP x := by
  unfold partsS
  intro x hx
  split at hx
  · rename_i hs
    simp at hx; subst hx
    refine ⟨r1, by simp, by simp, ?_⟩
    show okS 1 _ = true
    unfold okS; rw [if_pos rfl]
    exact decide_eq_true (.inl ⟨rfl, rfl, hs.1, hs.2⟩)
  · split at hx
    · simp at hx; subst hx
      refine ⟨r1, by simp, by simp, ?_⟩
      show okS 3 _ = true
      exact decide_eq_true ⟨rfl, rfl, rfl, by simp only; omega, by simp only; omega⟩
    · simp at hx
      rcases hx with rfl | rfl
      · refine ⟨r1, by simp, by simp, ?_⟩
        show okS 3 _ = true
        exact decide_eq_true ⟨rfl, rfl, rfl, by simp only; omega, by simp only; omega⟩
      · refine ⟨r1, r1, by simp, ?_⟩
        show okS 1 _ = true
        unfold okS; rw [if_pos rfl]
        exact decide_eq_true (.inl ⟨rfl, rfl, show -16384 ≤ w % 2048 by omega, show w % 2048 < 16384 by omega⟩)
/-- An instruction of the ALU with a number; one with two registers. -/
def aluI (op rd rs n : Int) : Ix := ⟨1 + op, rd, rs, 0, true, n⟩
def bothI (op rd a b : Int) : Ix := ⟨1 + op, rd, a, b, false, 0⟩
def ldI (rd rs at' : Int) : Ix := ⟨22, rd, rs, 0, true, at'⟩
def stI (rd rs at' : Int) : Ix := ⟨23, rd, rs, 0, true, at'⟩
def cmpI (rs n : Int) : Ix := ⟨16, 0, rs, 0, true, n⟩
instance decIxBd (x : Ix) : Decidable x.bd := by unfold Ix.bd; infer_instance
/-- Instructions that may be. -/
def okI (x : Ix) : Prop := x.bd ∧ mayP x
instance decOkI (x : Ix) : Decidable (okI x) := by unfold okI; infer_instance
def allI (l : List Ix) : Prop := ∀ x ∈ l, okI x
instance decAllI (l : List Ix) : Decidable (allI l) := by unfold allI; infer_instance
/-- A list of instructions under way, and its marks. -/
structure Bs where
  L : List It
  M : List (List UInt8 × Int)
def Bs.put (s : Bs) (l : List Ix) : Bs := { s with L := s.L ++ l.map .put }
def Bs.jump (s : Bs) (c : Int) (nm : List UInt8) : Bs := { s with L := s.L ++ [.far ⟨17, c, 0, 0, true, 0⟩ ⟨nm.toArray⟩] }
def Bs.mark (s : Bs) (nm : List UInt8) : Bs := { s with M := s.M ++ [(nm, (s.L.length : Int))] }
/-- Names of marks. -/
def nmOver : List UInt8 := [111, 118, 101, 114]
def nmOverIn : List UInt8 := [111, 118, 101, 114, 46, 105, 110]
def nmUnder : List UInt8 := [117, 110, 100, 101, 114]
def nmUnderIn : List UInt8 := [117, 110, 100, 101, 114, 46, 105, 110]
/-- The WIM's bit is moved. -/
def turnedA (nw this that : Int) : List Ix := [⟨28, 1, 0, 0, false, 0⟩, aluI this 2 1 1, aluI that 1 1 (nw - 1), bothI 6 2 2 1]
def Bs.turned (s : Bs) (nw : Nat) (this that : Int) : Bs :=
  if nw < 32 then ((s.put (turnedA nw this that)).put (partsS 1 ((2 : Int) ^ nw - 1))).put [bothI 5 2 2 1] else s.put (turnedA nw this that)
def windowI : List Ix := [aluI 5 5 3 (-32), bothI 6 5 5 4, ⟨27, 0, 5, 0, false, 0⟩]
def endI : List Ix := [⟨29, 0, 2, 0, false, 0⟩, ⟨32, 0, 0, 0, false, 0⟩]
def eachI (op : Int) (i : Nat) : Ix := ⟨op, (i : Int) + 16, 14, 0, true, 4 * (i : Int)⟩
def Bs.each (s : Bs) (op : Int) : Nat → Bs
  | 0 => s
  | n + 1 => (s.each op n).put [eachI op n]
def Bs.over (s : Bs) (nw : Nat) : Bs :=
  ((((((((s.mark nmOver).turned nw 9 8).put [⟨26, 3, 0, 0, false, 0⟩, aluI 5 4 3 31, aluI 1 4 4 2, ⟨16, 0, 4, 0, true, 0⟩]).jump 4 nmOverIn).put [aluI 0 4 4 nw]).mark nmOverIn).put windowI).each 23 16).put endI
def Bs.under (s : Bs) (nw : Nat) : Bs :=
  ((((((((s.mark nmUnder).turned nw 8 9).put [⟨26, 3, 0, 0, false, 0⟩, aluI 5 4 3 31, aluI 0 4 4 1, ⟨16, 0, 4, 0, true, nw⟩]).jump 2 nmUnderIn).put [aluI 0 4 0 0]).mark nmUnderIn).put windowI).each 22 16).put endI
theorem pow_ok : ∀ nw : Nat, nw < 32 → ((2 : Int) ^ nw - 1) % 4294967296 = (2 : Int) ^ nw - 1 ∧ 0 ≤ (2 : Int) ^ nw - 1 ∧ (2 : Int) ^ nw - 1 < 4294967296 := by decide
theorem turned_ok : ∀ nw : Nat, nw < 33 → 2 ≤ nw → allI (turnedA nw 9 8) ∧ allI (turnedA nw 8 9) := by decide
theorem cmp_ok : ∀ nw : Nat, nw < 33 → allI [aluI 0 4 4 nw] ∧ allI [⟨26, 3, 0, 0, false, 0⟩, aluI 5 4 3 31, aluI 0 4 4 1, ⟨16, 0, 4, 0, true, nw⟩] := by decide
theorem each_ok : ∀ i : Nat, i < 16 → allI [eachI 23 i] ∧ allI [eachI 22 i] := by decide
theorem Bs.each_M (s : Bs) (op : Int) : ∀ n, (s.each op n).M = s.M
  | 0 => rfl
  | n + 1 => s.each_M op n
theorem Bs.each_len (s : Bs) (op : Int) : ∀ n, (s.each op n).L.length = s.L.length + n
  | 0 => rfl
  | n + 1 => by
    have ih := s.each_len op n
    show ((s.each op n).L ++ _).length = _
    rw [List.length_append, ih]; simp; omega
theorem Bs.put_len (s : Bs) (l : List Ix) : (s.put l).L.length = s.L.length + l.length := by
  show (s.L ++ _).length = _
  rw [List.length_append, List.length_map]
theorem Bs.turned_len (s : Bs) (nw : Nat) (this that : Int) : (s.turned nw this that).L.length ≤ s.L.length + 7 ∧ (s.turned nw this that).M = s.M := by
  unfold Bs.turned
  have h := parts_len 1 ((2 : Int) ^ nw - 1)
  split
  · refine ⟨?_, rfl⟩
    rw [Bs.put_len, Bs.put_len, Bs.put_len]
    simp [turnedA]; omega
  · refine ⟨?_, rfl⟩
    rw [Bs.put_len]; simp [turnedA]
end Go.Proofs.YtkejnhleajfcjaaGreatDoor
/- A list of instructions under way: each of its methods in one form. No new function of the program is walked here. -/
namespace Go.Proofs.YtkejnhleajfcjaaGreatDoor
open Go.RowKit
set_option linter.unusedVariables false
set_option linter.unusedSimpArgs false
/-- Instructions that a call has laid as a row. -/
theorem InsIn.lit {l : List Ix} (hb : allI l) (hl : l.length ≤ 100) (w : World) : InsIn (w.alloc (.cells (l.flatMap Ix.cells).toArray 108)) (.slice (some ⟨w.heap.size, 0, none⟩) l.length l.length) l :=
  InsIn.of_row (fun x hx => (hb x hx).1) (by unfold maxLen; omega) fun j u hu => by
    simp only [World.cell?, (MapKept.heap_alloc w _).1]
    simpa using hu
/-- A list in the world w; since W only blocks that are not elder have changed. -/
structure BsAt (W w : World) (pa : Nat) (S : Nat → Prop) (s : Bs) : Prop where
  lst : Lst W.heap.size w pa S s.L s.M
  tab : TabLo W.heap.size w
  bel : Below W.heap.size W w
def BsGo (W w : World) (pa : Nat) (S : Nat → Prop) (s : Bs) (w' : World) : Prop := ∃ S', BsAt W w' pa S' s ∧ Only S w w' ∧ ∀ k, S' k → S k ∨ w.heap.size ≤ k
section
variable {W w : World} {pa : Nat} {S : Nat → Prop} {s : Bs}
theorem BsAt.keepb (h : BsAt W w pa S s) {w' : World} (hb : Below w.heap.size w w') : BsAt W w' pa S s :=
  ⟨h.lst.keepb hb, h.tab.keepO (Only.of_below (S := fun _ => False) hb) (fun _ hk => hk.elim), h.bel.trans (hb.mono h.bel.size)⟩
theorem BsAt.step (h : BsAt W w pa S s) {s' : Bs} {w' : World} (hg : ∃ S', Lst W.heap.size w' pa S' s'.L s'.M ∧ Only S w w' ∧ ∀ k, S' k → S k ∨ w.heap.size ≤ k) : BsGo W w pa S s' w' := by
  obtain ⟨S', l', o', r'⟩ := hg
  have hb : Below W.heap.size W w' := h.bel.trans (o'.below h.bel.size (fun k hk hS => by have := (h.lst.lo k hS).1; omega))
  exact ⟨S', ⟨l', h.tab.keepO o' (fun k hk => (h.lst.lo k hk).1), hb⟩, o', r'⟩
theorem BsGo.same (h : BsAt W w pa S s) : BsGo W w pa S s w := ⟨S, h, Only.refl _ _, fun _ hk => .inl hk⟩
theorem BsGo.behind {w1 w4 : World} {s' : Bs} (hb : Below w.heap.size w w1) (hg : BsGo W w1 pa S s' w4) : BsGo W w pa S s' w4 := by
  obtain ⟨S', h', o', r'⟩ := hg
  exact ⟨S', h', (Only.of_below (S := S) hb).trans o', fun k hk => (r' k hk).imp id (fun h => Nat.le_trans hb.size h)⟩
theorem BsGo.after {w4 w5 : World} (hg : BsGo W w pa S s w4) (hb : Below w4.heap.size w4 w5) : BsGo W w pa S s w5 := by
  obtain ⟨S', h', o', r'⟩ := hg
  exact ⟨S', h'.keepb hb, o'.trans (Only.of_below hb), r'⟩
theorem BsGo.then {w1 w2 : World} {S1 : Nat → Prop} {s' : Bs} (o1 : Only S w w1) (r1 : ∀ k, S1 k → S k ∨ w.heap.size ≤ k) (hg : BsGo W w1 pa S1 s' w2) : BsGo W w pa S s' w2 := by
  obtain ⟨S2, h2, o2, r2⟩ := hg
  refine ⟨S2, h2, o1.fresh o2 (fun i hi hk => ?_), fun k hk => ?_⟩
  · rcases r1 i hk with h | h
    · exact h
    · omega
  · rcases r2 k hk with h | h
    · exact r1 k h
    · exact .inr (Nat.le_trans o1.size h)
/-- Blocks that the list does not own stay. -/
theorem BsGo.cell {w' : World} {s' : Bs} (hg : BsGo W w pa S s' w') {k j : Nat} {v : Value} (hc : w.cell? ⟨k, j, none⟩ = some v) (hk : ¬ S k) : w'.cell? ⟨k, j, none⟩ = some v := by
  obtain ⟨S', h', o', r'⟩ := hg
  exact (o'.cell (p := ⟨k, j, none⟩) (World.block_lt_of_cell? _ _ hc) hk).trans hc
theorem bs_put (h : BsAt W w pa S s) {v : Value} {l : List Ix} (hl : InsIn w v l) (hm : ∀ x ∈ l, mayP x) (hL : s.L.length + l.length < 4294967296) :
    Calls Tryz.prog 54 #[.pointer (some ⟨pa, 0, none⟩), v] w fun e w' => e = .returned (.int .i64 0) ∧ BsGo W w pa S (s.put l) w' := by
  obtain ⟨sv, m, K, hA, hO, hK⟩ := h.lst.ex
  refine (aput_any w h.tab.tab pa m sv K s.L s.M hA v l hl hL).mono fun e w' hh => ?_
  obtain ⟨he, hst⟩ := put_step hA hh
  rw [putE, if_pos hm] at he
  rw [putL, if_pos hm] at hst
  exact ⟨he, h.step (s' := s.put l) (h.lst.to h.bel.size hO hK hst)⟩
theorem bs_jump (h : BsAt W w pa S s) {c : Int} (hc0 : 0 ≤ c) (hc1 : c ≤ 6) {nm : List UInt8} (hs : nm.length ≤ 100) (hL : s.L.length < 4294967296) :
    Calls Tryz.prog 214 #[.pointer (some ⟨pa, 0, none⟩), .int .u8 c, .string ⟨nm.toArray⟩] w fun e w' => e = .returned (.int .i64 0) ∧ BsGo W w pa S (s.jump c nm) w' := by
  obtain ⟨sv, m, K, hA, hO, hK⟩ := h.lst.ex
  refine (ajump_any w h.tab.tab pa m sv K s.L s.M hA c hc0 (by omega) ⟨nm.toArray⟩ (by simp [ByteArray.size, maxLen]; omega) hL).mono fun e w' hh => ?_
  obtain ⟨he, hst⟩ := far_step hA (jump_may hc0) hh
  rw [jumpE, if_pos hc1] at he
  rw [jumpL, if_pos hc1] at hst
  exact ⟨he, h.step (s' := s.jump c nm) (h.lst.to h.bel.size hO hK hst)⟩
theorem bs_const (h : BsAt W w pa S s) {rd n : Int} (r0 : 0 ≤ rd) (r1 : rd ≤ 31) (h0 : 0 ≤ n) (h1 : n < 4294967296) (hL : s.L.length + 2 < 4294967296) :
    Calls Tryz.prog 268 #[.pointer (some ⟨pa, 0, none⟩), .int .u8 rd, .int .u32 n] w fun e w' => e = .returned (.int .i64 0) ∧ BsGo W w pa S (s.put (partsS rd n)) w' := by
  obtain ⟨sv, m, K, hA, hO, hK⟩ := h.lst.ex
  refine (aconst_any w h.tab.tab pa m sv K s.L s.M hA rd n r0 (by omega) h0 h1 hL).mono fun e w' hh => ?_
  obtain ⟨he, hst⟩ := put_step hA hh
  rw [putE, if_pos (bparts_may r0 r1 h0 h1)] at he
  rw [putL, if_pos (bparts_may r0 r1 h0 h1)] at hst
  exact ⟨he, h.step (s' := s.put (partsS rd n)) (h.lst.to h.bel.size hO hK hst)⟩
theorem bs_mark (h : BsAt W w pa S s) {nm : List UInt8} (hs : nm.length ≤ 100) (hn : look s.M nm = none) (hM : s.M.length < 4294967296) (hL : s.L.length < 4294967296) :
    Calls Tryz.prog 215 #[.pointer (some ⟨pa, 0, none⟩), .string ⟨nm.toArray⟩] w fun e w' => e = .returned (.int .i64 0) ∧ BsGo W w pa S (s.mark nm) w' := by
  obtain ⟨sv, m, K, hA, hO, hK⟩ := h.lst.ex
  refine (amark_step w pa m sv K s.L s.M hA ⟨nm.toArray⟩ (by simp [ByteArray.size, maxLen]; omega) (by unfold maxLen; omega) hL).mono fun e w' hh => ?_
  obtain ⟨he, hst⟩ := hh
  have hn' : ¬ (look s.M (⟨nm.toArray⟩ : ByteArray).data.toList).isSome = true := by simp [hn]
  rw [markE, if_neg hn'] at he
  rw [markM, if_neg hn'] at hst
  exact ⟨he, h.step (s' := s.mark nm) (h.lst.to h.bel.size hO hK hst)⟩
theorem bs_lit (h : BsAt W w pa S s) {l : List Ix} (hm : allI l) (hl : l.length ≤ 100) (hL : s.L.length + l.length < 4294967296) {w1 : World} (hb : Below w.heap.size w w1) :
    Calls Tryz.prog 54 #[.pointer (some ⟨pa, 0, none⟩), .slice (some ⟨w1.heap.size, 0, none⟩) l.length l.length] (w1.alloc (.cells (l.flatMap Ix.cells).toArray 108)) fun e w' => e = .returned (.int .i64 0) ∧ BsGo W w pa S (s.put l) w' := by
  have hb2 : Below w.heap.size w (w1.alloc (.cells (l.flatMap Ix.cells).toArray 108)) := hb.alloc hb.size _
  refine (bs_put (h.keepb hb2) (InsIn.lit hm hl w1) (fun x hx => (hm x hx).2) hL).mono ?_
  rintro e w' ⟨he, hg⟩
  exact ⟨he, hg.behind hb2⟩
end
end Go.Proofs.YtkejnhleajfcjaaGreatDoor
/- Plain law of the state word: what its parts are, the windows, the WIM. No program in sight. -/
namespace Go.Proofs.YtkejnhleajfcjaaGreatDoor
open Go.RowKit
set_option linter.unusedVariables false
/-- A state. -/
structure Px where
  cwp : Int
  pil : Int
  bank : Int
  flags : Int
def Px.bd (p : Px) : Prop := (0 ≤ p.cwp ∧ p.cwp < 256) ∧ (0 ≤ p.pil ∧ p.pil < 256) ∧ (0 ≤ p.bank ∧ p.bank < 256) ∧ (0 ≤ p.flags ∧ p.flags < 256)
instance (p : Px) : Decidable p.bd := by unfold Px.bd; infer_instance
abbrev Px.agg (p : Px) : Value := .agg #[.int .u8 p.cwp, .int .u8 p.pil, .int .u8 p.bank, .int .u8 p.flags]
def Px.zero : Px := ⟨0, 0, 0, 0⟩
def winP (nw : Int) : Prop := 2 ≤ nw ∧ nw ≤ 32
instance (nw : Int) : Decidable (winP nw) := by unfold winP; infer_instance
def pmayP (p : Px) (nw : Int) : Prop := p.cwp < nw ∧ p.pil < 16 ∧ p.bank < 17 ∧ p.flags < 16
instance (p : Px) (nw : Int) : Decidable (pmayP p nw) := by unfold pmayP; infer_instance
def packW (p : Px) : Int := p.cwp + 32 * p.pil + 512 * p.bank + 16384 * p.flags
def packS (p : Px) (nw : Int) : Int := if winP nw ∧ pmayP p nw then packW p else 0
def packE (p : Px) (nw : Int) : Int := if winP nw ∧ pmayP p nw then 0 else 2
def unW (w : Int) : Px := ⟨w % 32, w / 32 % 16, w / 512 % 32, w / 16384 % 16⟩
def unOk (w nw : Int) : Prop := w < 262144 ∧ pmayP (unW w) nw
instance (w nw : Int) : Decidable (unOk w nw) := by unfold unOk; infer_instance
def unS (w nw : Int) : Px := if winP nw ∧ unOk w nw then unW w else Px.zero
def unE (w nw : Int) : Int := if winP nw then (if unOk w nw then 0 else 5) else 2
theorem pack_bd {p : Px} {nw : Int} (hb : p.bd) (hw : winP nw) (h : pmayP p nw) : 0 ≤ packW p ∧ packW p < 262144 := by
  obtain ⟨⟨a, _⟩, ⟨b, _⟩, ⟨c, _⟩, ⟨d, _⟩⟩ := hb
  obtain ⟨h1, h2, h3, h4⟩ := h
  obtain ⟨_, hw⟩ := hw
  unfold packW; omega
theorem un_pack {p : Px} {nw : Int} (hb : p.bd) (hw : winP nw) (h : pmayP p nw) : unW (packW p) = p := by
  obtain ⟨cwp, pil, bank, flags⟩ := p
  obtain ⟨⟨a, _⟩, ⟨b, _⟩, ⟨c, _⟩, ⟨d, _⟩⟩ := hb
  obtain ⟨h1, h2, h3, h4⟩ := h
  obtain ⟨_, hw⟩ := hw
  simp only at *
  unfold unW packW
  congr 1 <;> simp only <;> omega
theorem pack_un {w : Int} (h0 : 0 ≤ w) (h1 : w < 262144) : packW (unW w) = w := by
  unfold unW packW; simp only; omega
theorem un_bd {w : Int} (h0 : 0 ≤ w) : (unW w).bd := by
  unfold unW Px.bd; simp only; omega
theorem un_of_pack {p : Px} {nw : Int} (hb : p.bd) (h : winP nw ∧ pmayP p nw) : unS (packW p) nw = p ∧ unE (packW p) nw = 0 := by
  have hu := un_pack hb h.1 h.2
  have hB := pack_bd hb h.1 h.2
  have hok : unOk (packW p) nw := ⟨hB.2, by rw [hu]; exact h.2⟩
  exact ⟨by unfold unS; rw [if_pos ⟨h.1, hok⟩, hu], by unfold unE; rw [if_pos h.1, if_pos hok]⟩
theorem pack_of_un {w nw : Int} (h0 : 0 ≤ w) (h : winP nw ∧ unOk w nw) : packS (unS w nw) nw = w ∧ packE (unS w nw) nw = 0 := by
  have e : unS w nw = unW w := if_pos h
  rw [e]
  have hm : winP nw ∧ pmayP (unW w) nw := ⟨h.1, h.2.2⟩
  exact ⟨by unfold packS; rw [if_pos hm, pack_un h0 h.2.1], by unfold packE; rw [if_pos hm]⟩
/-- Numbers below others, pair by pair, and none below 0. -/
def belowB (l : List Int) (m : Nat) : Bool := (List.range m).all fun j => decide (0 ≤ l.getD (2 * j) 0 ∧ l.getD (2 * j) 0 < l.getD (2 * j + 1) 0)
theorem below_step {l : List Int} {k : Nat} (h : belowB l k = true) (a b : Int) (ha : l.getD (2 * k) 0 = a) (hb : l.getD (2 * k + 1) 0 = b) : belowB l (k + 1) = decide (0 ≤ a ∧ a < b) := by
  unfold belowB at h ⊢
  rw [List.range_succ, List.all_append, h, ← ha, ← hb]; simp
theorem below_stop {l : List Int} {k m : Nat} (hk : k < m) (a b : Int) (ha : l.getD (2 * k) 0 = a) (hb : l.getD (2 * k + 1) 0 = b) (hn : ¬ (0 ≤ a ∧ a < b)) : belowB l m = false := by
  unfold belowB
  rw [List.all_eq_false]
  exact ⟨k, by simpa using hk, by rw [ha, hb]; simpa using hn⟩
end Go.Proofs.YtkejnhleajfcjaaGreatDoor
/- Walks of the package psr: below, windows, may. -/
namespace Go.Proofs.YtkejnhleajfcjaaGreatDoor
open Go.RowKit
set_option linter.unusedVariables false
set_option linter.unusedSimpArgs false
theorem phid {p : Prop} (h : p) : Hid p := h
theorem pretb {a b : Bool} (h : a = b) : Ending.returned (.bool a) = .returned (.bool b) := by rw [h]
theorem pret {k : IntKind} {a b : Int} (h : a = b) : Ending.returned (.int k a) = .returned (.int k b) := by rw [h]
theorem pret2 {k l : IntKind} {a b c d : Int} (h : a = b) (g : c = d) : Ending.returned (.tuple #[.int k a, .int l c]) = .returned (.tuple #[.int k b, .int l d]) := by rw [h, g]
theorem pbt {a b c : World} (h : Below a.heap.size a b) (k : Below b.heap.size b c) : Below a.heap.size a c := h.trans (k.mono h.size)
theorem pbal (w : World) (o : Obj) : Below w.heap.size w (w.alloc o) := (Below.refl _ _).alloc (Nat.le_refl _) _
theorem pdrew {n : Nat} {a b : World} (h : Below n a b) (k : Nat) : Below n a (b.drewN k) := h.trans ⟨rfl, rfl, rfl, Nat.le_refl _, fun _ _ => rfl⟩
set_option maxRecDepth 100000 in
set_option maxHeartbeats 1000000 in
theorem below_any (l : List Int) (m g : Nat) (hm : m ≤ 4) (hl : l.length = 2 * m) (w : World) (hc : ∀ k, k < l.length → w.cell? ⟨g, k, none⟩ = some (.int .i64 (l.getD k 0))) :
    Calls Tryz.prog 227 #[.slice (some ⟨g, 0, none⟩) l.length l.length] w fun e w' => e = .returned (.bool (belowB l m)) ∧ Below w.heap.size w w' := by
  rw [hl] at hc ⊢
  have HC := phid hc
  clear hc hl
  go_enter Tryz.func227, Tryz.ntmps227
  go_wp2_with fail
  go_loopw [3] (fun i wr => ∃ k : Nat, k ≤ m ∧ i = .int .i64 (2 * (k : Int)) ∧ belowB l k = true ∧ Below w.heap.size w wr) (fun i _ => 2 * m - (intOf i).toNat)
  case atStart => exact ⟨0, Nat.zero_le _, rfl, rfl, Below.refl _ _⟩
  case round =>
    obtain ⟨k, hk, rfl, hbk, hB⟩ := hrel
    by_cases hlt : k < m
    · have c0 := (hB.cell (p := ⟨g, 2 * k, none⟩) (World.block_lt_of_cell? _ _ (HC.out (2 * k) (by omega)))).trans (HC.out (2 * k) (by omega))
      have c1 := (hB.cell (p := ⟨g, 2 * k + 1, none⟩) (World.block_lt_of_cell? _ _ (HC.out (2 * k + 1) (by omega)))).trans (HC.out (2 * k + 1) (by omega))
      generalize ha : l.getD (2 * k) 0 = a at c0
      generalize hb : l.getD (2 * k + 1) 0 = b at c1
      have HA := phid (And.intro ha hb)
      have HK := phid hbk
      have HB := phid hB
      clear ha hb hbk hB
      have f1 : IntKind.i64.wrap (2 * (k : Int) + 1) = 2 * (k : Int) + 1 := IntWalk.i64_in _ (by omega)
      have f2 : (0 : Int) ≤ 2 * (k : Int) + 1 := by omega
      have f3 : (2 * (k : Int) + 1).toNat = 2 * k + 1 := by omega
      have f4 : (2 * (k : Int)).toNat = 2 * k := by omega
      have f5 : (0 : Int) ≤ 2 * (k : Int) := by omega
      have f6 : 2 * (k : Int) + 1 < 2 * (m : Int) := by omega
      have f7 : 2 * (k : Int) < 2 * (m : Int) := by omega
      by_cases h1 : a < 0
      · have e1 : decide (a < 0) = true := by simpa using h1
        go_wp2_with fail
        go_quiet (fail)
        go_wp2_with fail
        go_ret
        exact ⟨pretb (below_stop hlt a b HA.out.1 HA.out.2 (by omega)).symm, pdrew HB.out _⟩
      · have e1 : decide (a < 0) = false := by simpa using h1
        by_cases h2 : b ≤ a
        · have e2 : decide (b ≤ a) = true := by simpa using h2
          go_wp2_with fail
          go_quiet (fail)
          go_wp2_with fail
          go_ret
          exact ⟨pretb (below_stop hlt a b HA.out.1 HA.out.2 (by omega)).symm, pdrew HB.out _⟩
        · have e2 : decide (b ≤ a) = false := by simpa using h2
          have HS := phid ((below_step HK.out a b HA.out.1 HA.out.2).trans (decide_eq_true (by omega)))
          have f8 : IntKind.i64.wrap (2 * (k : Int) + 2) = 2 * (k : Int) + 2 := IntWalk.i64_in _ (by omega)
          go_wp2_with fail
          go_quiet (fail)
          go_wp2_with fail
          go_roundw
          case rel => exact ⟨k + 1, by omega, by go_num, HS.out, pdrew HB.out _⟩
          case measure => simp [intOf] <;> omega
    · obtain rfl : k = m := by omega
      go_wp2_with fail
      go_ret
      exact ⟨pretb hbk.symm, hB⟩
theorem windows_any (nw : Int) (w : World) : Calls Tryz.prog 226 #[.int .i64 nw] w fun e w' => e = .returned (.bool (decide (winP nw))) ∧ w = w' := by
  by_cases h1 : 2 ≤ nw
  · by_cases h2 : nw ≤ 32
    · have e1 : decide (2 ≤ nw) = true := by simpa using h1
      have e2 : decide (nw ≤ 32) = true := by simpa using h2
      have E := phid (show decide (winP nw) = true from decide_eq_true ⟨h1, h2⟩)
      clear h1 h2
      go_enter Tryz.func226, Tryz.ntmps226
      go_wp2
      go_ret
      exact ⟨pretb E.out.symm, rfl⟩
    · have e1 : decide (2 ≤ nw) = true := by simpa using h1
      have e2 : decide (nw ≤ 32) = false := by simpa using h2
      have E := phid (show decide (winP nw) = false from decide_eq_false (fun h => h2 h.2))
      clear h1 h2
      go_enter Tryz.func226, Tryz.ntmps226
      go_wp2
      go_ret
      exact ⟨pretb E.out.symm, rfl⟩
  · have e1 : decide (2 ≤ nw) = false := by simpa using h1
    have E := phid (show decide (winP nw) = false from decide_eq_false (fun h => h1 h.1))
    clear h1
    go_enter Tryz.func226, Tryz.ntmps226
    go_wp2
    go_ret
    exact ⟨pretb E.out.symm, rfl⟩
theorem below8_eq (p : Px) (hb : p.bd) (nw : Int) : belowB [p.cwp, nw, p.pil, 16, p.bank, 17, p.flags, 16] 4 = decide (pmayP p nw) := by
  obtain ⟨⟨a, _⟩, ⟨b, _⟩, ⟨c, _⟩, ⟨d, _⟩⟩ := hb
  unfold belowB
  rw [Bool.eq_iff_iff, decide_eq_true_iff]
  unfold pmayP
  simp [show List.range 4 = [0, 1, 2, 3] from rfl]
  omega
theorem below2_eq (w nw : Int) : belowB [w, nw] 1 = decide (0 ≤ w ∧ w < nw) := by
  unfold belowB
  simp [show List.range 1 = [0] from rfl]
set_option maxRecDepth 100000 in
set_option maxHeartbeats 1000000 in
theorem pmay_any (p : Px) (hb : p.bd) (nw : Int) (w : World) : Calls Tryz.prog 243 #[p.agg, .int .i64 nw] w fun e w' => e = .returned (.bool (decide (pmayP p nw))) ∧ Below w.heap.size w w' := by
  have E := phid (below8_eq p hb nw)
  obtain ⟨cwp, pil, bank, flags⟩ := p
  obtain ⟨b0, b1, b2, b3⟩ := hb
  simp only at b0 b1 b2 b3
  go_enter Tryz.func243, Tryz.ntmps243
  go_wp2_with fail
  refine (below_any [cwp, nw, pil, 16, bank, 17, flags, 16] 4 _ (by omega) rfl _ ?_).mono ?_
  · intro k hk
    have : k = 0 ∨ k = 1 ∨ k = 2 ∨ k = 3 ∨ k = 4 ∨ k = 5 ∨ k = 6 ∨ k = 7 := by simp at hk; omega
    rcases this with rfl | rfl | rfl | rfl | rfl | rfl | rfl | rfl <;> simp [go_sem]
  rw [E.out]
  rintro e w' ⟨rfl, hB⟩
  have HB := phid hB
  clear hB
  go_wp2_with fail
  go_ret
  exact ⟨rfl, pbt (pbt (pbal _ _) (pbal _ _)) HB.out⟩
end Go.Proofs.YtkejnhleajfcjaaGreatDoor
/- Walks of math/bits.OnesCount32, and of TrailingZeros32 at powers of two; the plain law of the WIM. -/
namespace Go.Proofs.YtkejnhleajfcjaaGreatDoor
open Go.RowKit
set_option linter.unusedVariables false
set_option linter.unusedSimpArgs false
theorem bmask (x : Int) (h0 : 0 ≤ x) (h1 : x < 4294967296) : bits .and .u32 x 255 = x % 256 := by
  rw [u32_and x 255 h0 h1 (by omega) (by omega)]
  rw [show ((x.toNat &&& (255 : Int).toNat : Nat) : Int) = ((x.toNat % 2 ^ 8 : Nat) : Int) from congrArg _ (Nat.and_two_pow_sub_one_eq_mod x.toNat 8)]
  omega
def onesS (x : Int) : Int := (Lib.pop8 (x / 16777216) + Lib.pop8 (x / 65536 % 256) + Lib.pop8 (x / 256 % 256) + Lib.pop8 (x % 256)) % 256
set_option maxRecDepth 100000 in
set_option maxHeartbeats 2000000 in
theorem ones_any (x : Int) (h0 : 0 ≤ x) (h1 : x < 4294967296) (w : World) : Calls Tryz.prog 258 #[.int .u32 x] w fun e w' => e = .returned (.int .i64 (onesS x)) ∧ Below w.heap.size w w' := by
  have a0 : 0 ≤ x / 16777216 ∧ x / 16777216 ≤ 255 := by omega
  have a1 : 0 ≤ x / 65536 ∧ x / 65536 < 4294967296 := by omega
  have a2 : 0 ≤ x / 256 ∧ x / 256 < 4294967296 := by omega
  have m1 := bmask (x / 65536) (by omega) (by omega)
  have m2 := bmask (x / 256) (by omega) (by omega)
  have m3 := bmask x h0 h1
  have c1 : 0 ≤ x / 65536 % 256 ∧ x / 65536 % 256 ≤ 255 := by omega
  have c2 : 0 ≤ x / 256 % 256 ∧ x / 256 % 256 ≤ 255 := by omega
  have c3 : 0 ≤ x % 256 ∧ x % 256 ≤ 255 := by omega
  go_enter Tryz.func258, Tryz.ntmps258
  go_wp2_with fail
  go_quiet (fail)
  go_wp2_with fail
  go_ret
  exact ⟨pret rfl, pdrew (Below.refl _ _) _⟩
def Bru (w : World) : Prop := ∀ i : Nat, i < 32 → w.cell? ⟨1, i, none⟩ = some (.int .u8 (([0, 1, 28, 2, 29, 14, 24, 3, 30, 22, 20, 15, 25, 17, 4, 8, 31, 27, 13, 23, 21, 19, 16, 7, 26, 12, 18, 6, 11, 5, 10, 9] : List Int).getD i 0))
theorem Bru.keep {w w' : World} (h : Bru w) (hb : Below w.heap.size w w') : Bru w' := fun i hi => by
  have h1 := h i hi
  exact (hb.cell (p := ⟨1, i, none⟩) (World.block_lt_of_cell? _ _ h1)).trans h1
theorem Bru.al {w : World} (h : Bru w) (o : Obj) : Bru (w.alloc o) := h.keep (pbal w o)
set_option maxRecDepth 100000 in
set_option maxHeartbeats 2000000 in
theorem tz_0 (w : World) (hb : Bru w) : Calls Tryz.prog 259 #[.int .u32 1] w fun e w' => e = .returned (.int .i64 0) ∧ w = w' := by
  have hc : w.cell? ⟨1, 0, none⟩ = some (.int .u8 0) := hb 0 (by omega)
  clear hb
  have e1 : bits .and .u32 1 4294967295 = 1 := by decide +kernel
  go_enter Tryz.func259, Tryz.ntmps259
  go_wp2_with fail
  go_ret
  exact ⟨rfl, rfl⟩
set_option maxRecDepth 100000 in
set_option maxHeartbeats 2000000 in
theorem tz_1 (w : World) (hb : Bru w) : Calls Tryz.prog 259 #[.int .u32 2] w fun e w' => e = .returned (.int .i64 1) ∧ w = w' := by
  have hc : w.cell? ⟨1, 1, none⟩ = some (.int .u8 1) := hb 1 (by omega)
  clear hb
  have e1 : bits .and .u32 2 4294967294 = 2 := by decide +kernel
  go_enter Tryz.func259, Tryz.ntmps259
  go_wp2_with fail
  go_ret
  exact ⟨rfl, rfl⟩
set_option maxRecDepth 100000 in
set_option maxHeartbeats 2000000 in
theorem tz_2 (w : World) (hb : Bru w) : Calls Tryz.prog 259 #[.int .u32 4] w fun e w' => e = .returned (.int .i64 2) ∧ w = w' := by
  have hc : w.cell? ⟨1, 3, none⟩ = some (.int .u8 2) := hb 3 (by omega)
  clear hb
  have e1 : bits .and .u32 4 4294967292 = 4 := by decide +kernel
  go_enter Tryz.func259, Tryz.ntmps259
  go_wp2_with fail
  go_ret
  exact ⟨rfl, rfl⟩
set_option maxRecDepth 100000 in
set_option maxHeartbeats 2000000 in
theorem tz_3 (w : World) (hb : Bru w) : Calls Tryz.prog 259 #[.int .u32 8] w fun e w' => e = .returned (.int .i64 3) ∧ w = w' := by
  have hc : w.cell? ⟨1, 7, none⟩ = some (.int .u8 3) := hb 7 (by omega)
  clear hb
  have e1 : bits .and .u32 8 4294967288 = 8 := by decide +kernel
  go_enter Tryz.func259, Tryz.ntmps259
  go_wp2_with fail
  go_ret
  exact ⟨rfl, rfl⟩
set_option maxRecDepth 100000 in
set_option maxHeartbeats 2000000 in
theorem tz_4 (w : World) (hb : Bru w) : Calls Tryz.prog 259 #[.int .u32 16] w fun e w' => e = .returned (.int .i64 4) ∧ w = w' := by
  have hc : w.cell? ⟨1, 14, none⟩ = some (.int .u8 4) := hb 14 (by omega)
  clear hb
  have e1 : bits .and .u32 16 4294967280 = 16 := by decide +kernel
  go_enter Tryz.func259, Tryz.ntmps259
  go_wp2_with fail
  go_ret
  exact ⟨rfl, rfl⟩
set_option maxRecDepth 100000 in
set_option maxHeartbeats 2000000 in
theorem tz_5 (w : World) (hb : Bru w) : Calls Tryz.prog 259 #[.int .u32 32] w fun e w' => e = .returned (.int .i64 5) ∧ w = w' := by
  have hc : w.cell? ⟨1, 29, none⟩ = some (.int .u8 5) := hb 29 (by omega)
  clear hb
  have e1 : bits .and .u32 32 4294967264 = 32 := by decide +kernel
  go_enter Tryz.func259, Tryz.ntmps259
  go_wp2_with fail
  go_ret
  exact ⟨rfl, rfl⟩
set_option maxRecDepth 100000 in
set_option maxHeartbeats 2000000 in
theorem tz_6 (w : World) (hb : Bru w) : Calls Tryz.prog 259 #[.int .u32 64] w fun e w' => e = .returned (.int .i64 6) ∧ w = w' := by
  have hc : w.cell? ⟨1, 27, none⟩ = some (.int .u8 6) := hb 27 (by omega)
  clear hb
  have e1 : bits .and .u32 64 4294967232 = 64 := by decide +kernel
  go_enter Tryz.func259, Tryz.ntmps259
  go_wp2_with fail
  go_ret
  exact ⟨rfl, rfl⟩
set_option maxRecDepth 100000 in
set_option maxHeartbeats 2000000 in
theorem tz_7 (w : World) (hb : Bru w) : Calls Tryz.prog 259 #[.int .u32 128] w fun e w' => e = .returned (.int .i64 7) ∧ w = w' := by
  have hc : w.cell? ⟨1, 23, none⟩ = some (.int .u8 7) := hb 23 (by omega)
  clear hb
  have e1 : bits .and .u32 128 4294967168 = 128 := by decide +kernel
  go_enter Tryz.func259, Tryz.ntmps259
  go_wp2_with fail
  go_ret
  exact ⟨rfl, rfl⟩
set_option maxRecDepth 100000 in
set_option maxHeartbeats 2000000 in
theorem tz_8 (w : World) (hb : Bru w) : Calls Tryz.prog 259 #[.int .u32 256] w fun e w' => e = .returned (.int .i64 8) ∧ w = w' := by
  have hc : w.cell? ⟨1, 15, none⟩ = some (.int .u8 8) := hb 15 (by omega)
  clear hb
  have e1 : bits .and .u32 256 4294967040 = 256 := by decide +kernel
  go_enter Tryz.func259, Tryz.ntmps259
  go_wp2_with fail
  go_ret
  exact ⟨rfl, rfl⟩
set_option maxRecDepth 100000 in
set_option maxHeartbeats 2000000 in
theorem tz_9 (w : World) (hb : Bru w) : Calls Tryz.prog 259 #[.int .u32 512] w fun e w' => e = .returned (.int .i64 9) ∧ w = w' := by
  have hc : w.cell? ⟨1, 31, none⟩ = some (.int .u8 9) := hb 31 (by omega)
  clear hb
  have e1 : bits .and .u32 512 4294966784 = 512 := by decide +kernel
  go_enter Tryz.func259, Tryz.ntmps259
  go_wp2_with fail
  go_ret
  exact ⟨rfl, rfl⟩
set_option maxRecDepth 100000 in
set_option maxHeartbeats 2000000 in
theorem tz_10 (w : World) (hb : Bru w) : Calls Tryz.prog 259 #[.int .u32 1024] w fun e w' => e = .returned (.int .i64 10) ∧ w = w' := by
  have hc : w.cell? ⟨1, 30, none⟩ = some (.int .u8 10) := hb 30 (by omega)
  clear hb
  have e1 : bits .and .u32 1024 4294966272 = 1024 := by decide +kernel
  go_enter Tryz.func259, Tryz.ntmps259
  go_wp2_with fail
  go_ret
  exact ⟨rfl, rfl⟩
set_option maxRecDepth 100000 in
set_option maxHeartbeats 2000000 in
theorem tz_11 (w : World) (hb : Bru w) : Calls Tryz.prog 259 #[.int .u32 2048] w fun e w' => e = .returned (.int .i64 11) ∧ w = w' := by
  have hc : w.cell? ⟨1, 28, none⟩ = some (.int .u8 11) := hb 28 (by omega)
  clear hb
  have e1 : bits .and .u32 2048 4294965248 = 2048 := by decide +kernel
  go_enter Tryz.func259, Tryz.ntmps259
  go_wp2_with fail
  go_ret
  exact ⟨rfl, rfl⟩
set_option maxRecDepth 100000 in
set_option maxHeartbeats 2000000 in
theorem tz_12 (w : World) (hb : Bru w) : Calls Tryz.prog 259 #[.int .u32 4096] w fun e w' => e = .returned (.int .i64 12) ∧ w = w' := by
  have hc : w.cell? ⟨1, 25, none⟩ = some (.int .u8 12) := hb 25 (by omega)
  clear hb
  have e1 : bits .and .u32 4096 4294963200 = 4096 := by decide +kernel
  go_enter Tryz.func259, Tryz.ntmps259
  go_wp2_with fail
  go_ret
  exact ⟨rfl, rfl⟩
set_option maxRecDepth 100000 in
set_option maxHeartbeats 2000000 in
theorem tz_13 (w : World) (hb : Bru w) : Calls Tryz.prog 259 #[.int .u32 8192] w fun e w' => e = .returned (.int .i64 13) ∧ w = w' := by
  have hc : w.cell? ⟨1, 18, none⟩ = some (.int .u8 13) := hb 18 (by omega)
  clear hb
  have e1 : bits .and .u32 8192 4294959104 = 8192 := by decide +kernel
  go_enter Tryz.func259, Tryz.ntmps259
  go_wp2_with fail
  go_ret
  exact ⟨rfl, rfl⟩
set_option maxRecDepth 100000 in
set_option maxHeartbeats 2000000 in
theorem tz_14 (w : World) (hb : Bru w) : Calls Tryz.prog 259 #[.int .u32 16384] w fun e w' => e = .returned (.int .i64 14) ∧ w = w' := by
  have hc : w.cell? ⟨1, 5, none⟩ = some (.int .u8 14) := hb 5 (by omega)
  clear hb
  have e1 : bits .and .u32 16384 4294950912 = 16384 := by decide +kernel
  go_enter Tryz.func259, Tryz.ntmps259
  go_wp2_with fail
  go_ret
  exact ⟨rfl, rfl⟩
set_option maxRecDepth 100000 in
set_option maxHeartbeats 2000000 in
theorem tz_15 (w : World) (hb : Bru w) : Calls Tryz.prog 259 #[.int .u32 32768] w fun e w' => e = .returned (.int .i64 15) ∧ w = w' := by
  have hc : w.cell? ⟨1, 11, none⟩ = some (.int .u8 15) := hb 11 (by omega)
  clear hb
  have e1 : bits .and .u32 32768 4294934528 = 32768 := by decide +kernel
  go_enter Tryz.func259, Tryz.ntmps259
  go_wp2_with fail
  go_ret
  exact ⟨rfl, rfl⟩
set_option maxRecDepth 100000 in
set_option maxHeartbeats 2000000 in
theorem tz_16 (w : World) (hb : Bru w) : Calls Tryz.prog 259 #[.int .u32 65536] w fun e w' => e = .returned (.int .i64 16) ∧ w = w' := by
  have hc : w.cell? ⟨1, 22, none⟩ = some (.int .u8 16) := hb 22 (by omega)
  clear hb
  have e1 : bits .and .u32 65536 4294901760 = 65536 := by decide +kernel
  go_enter Tryz.func259, Tryz.ntmps259
  go_wp2_with fail
  go_ret
  exact ⟨rfl, rfl⟩
set_option maxRecDepth 100000 in
set_option maxHeartbeats 2000000 in
theorem tz_17 (w : World) (hb : Bru w) : Calls Tryz.prog 259 #[.int .u32 131072] w fun e w' => e = .returned (.int .i64 17) ∧ w = w' := by
  have hc : w.cell? ⟨1, 13, none⟩ = some (.int .u8 17) := hb 13 (by omega)
  clear hb
  have e1 : bits .and .u32 131072 4294836224 = 131072 := by decide +kernel
  go_enter Tryz.func259, Tryz.ntmps259
  go_wp2_with fail
  go_ret
  exact ⟨rfl, rfl⟩
set_option maxRecDepth 100000 in
set_option maxHeartbeats 2000000 in
theorem tz_18 (w : World) (hb : Bru w) : Calls Tryz.prog 259 #[.int .u32 262144] w fun e w' => e = .returned (.int .i64 18) ∧ w = w' := by
  have hc : w.cell? ⟨1, 26, none⟩ = some (.int .u8 18) := hb 26 (by omega)
  clear hb
  have e1 : bits .and .u32 262144 4294705152 = 262144 := by decide +kernel
  go_enter Tryz.func259, Tryz.ntmps259
  go_wp2_with fail
  go_ret
  exact ⟨rfl, rfl⟩
set_option maxRecDepth 100000 in
set_option maxHeartbeats 2000000 in
theorem tz_19 (w : World) (hb : Bru w) : Calls Tryz.prog 259 #[.int .u32 524288] w fun e w' => e = .returned (.int .i64 19) ∧ w = w' := by
  have hc : w.cell? ⟨1, 21, none⟩ = some (.int .u8 19) := hb 21 (by omega)
  clear hb
  have e1 : bits .and .u32 524288 4294443008 = 524288 := by decide +kernel
  go_enter Tryz.func259, Tryz.ntmps259
  go_wp2_with fail
  go_ret
  exact ⟨rfl, rfl⟩
set_option maxRecDepth 100000 in
set_option maxHeartbeats 2000000 in
theorem tz_20 (w : World) (hb : Bru w) : Calls Tryz.prog 259 #[.int .u32 1048576] w fun e w' => e = .returned (.int .i64 20) ∧ w = w' := by
  have hc : w.cell? ⟨1, 10, none⟩ = some (.int .u8 20) := hb 10 (by omega)
  clear hb
  have e1 : bits .and .u32 1048576 4293918720 = 1048576 := by decide +kernel
  go_enter Tryz.func259, Tryz.ntmps259
  go_wp2_with fail
  go_ret
  exact ⟨rfl, rfl⟩
set_option maxRecDepth 100000 in
set_option maxHeartbeats 2000000 in
theorem tz_21 (w : World) (hb : Bru w) : Calls Tryz.prog 259 #[.int .u32 2097152] w fun e w' => e = .returned (.int .i64 21) ∧ w = w' := by
  have hc : w.cell? ⟨1, 20, none⟩ = some (.int .u8 21) := hb 20 (by omega)
  clear hb
  have e1 : bits .and .u32 2097152 4292870144 = 2097152 := by decide +kernel
  go_enter Tryz.func259, Tryz.ntmps259
  go_wp2_with fail
  go_ret
  exact ⟨rfl, rfl⟩
set_option maxRecDepth 100000 in
set_option maxHeartbeats 2000000 in
theorem tz_22 (w : World) (hb : Bru w) : Calls Tryz.prog 259 #[.int .u32 4194304] w fun e w' => e = .returned (.int .i64 22) ∧ w = w' := by
  have hc : w.cell? ⟨1, 9, none⟩ = some (.int .u8 22) := hb 9 (by omega)
  clear hb
  have e1 : bits .and .u32 4194304 4290772992 = 4194304 := by decide +kernel
  go_enter Tryz.func259, Tryz.ntmps259
  go_wp2_with fail
  go_ret
  exact ⟨rfl, rfl⟩
set_option maxRecDepth 100000 in
set_option maxHeartbeats 2000000 in
theorem tz_23 (w : World) (hb : Bru w) : Calls Tryz.prog 259 #[.int .u32 8388608] w fun e w' => e = .returned (.int .i64 23) ∧ w = w' := by
  have hc : w.cell? ⟨1, 19, none⟩ = some (.int .u8 23) := hb 19 (by omega)
  clear hb
  have e1 : bits .and .u32 8388608 4286578688 = 8388608 := by decide +kernel
  go_enter Tryz.func259, Tryz.ntmps259
  go_wp2_with fail
  go_ret
  exact ⟨rfl, rfl⟩
set_option maxRecDepth 100000 in
set_option maxHeartbeats 2000000 in
theorem tz_24 (w : World) (hb : Bru w) : Calls Tryz.prog 259 #[.int .u32 16777216] w fun e w' => e = .returned (.int .i64 24) ∧ w = w' := by
  have hc : w.cell? ⟨1, 6, none⟩ = some (.int .u8 24) := hb 6 (by omega)
  clear hb
  have e1 : bits .and .u32 16777216 4278190080 = 16777216 := by decide +kernel
  go_enter Tryz.func259, Tryz.ntmps259
  go_wp2_with fail
  go_ret
  exact ⟨rfl, rfl⟩
set_option maxRecDepth 100000 in
set_option maxHeartbeats 2000000 in
theorem tz_25 (w : World) (hb : Bru w) : Calls Tryz.prog 259 #[.int .u32 33554432] w fun e w' => e = .returned (.int .i64 25) ∧ w = w' := by
  have hc : w.cell? ⟨1, 12, none⟩ = some (.int .u8 25) := hb 12 (by omega)
  clear hb
  have e1 : bits .and .u32 33554432 4261412864 = 33554432 := by decide +kernel
  go_enter Tryz.func259, Tryz.ntmps259
  go_wp2_with fail
  go_ret
  exact ⟨rfl, rfl⟩
set_option maxRecDepth 100000 in
set_option maxHeartbeats 2000000 in
theorem tz_26 (w : World) (hb : Bru w) : Calls Tryz.prog 259 #[.int .u32 67108864] w fun e w' => e = .returned (.int .i64 26) ∧ w = w' := by
  have hc : w.cell? ⟨1, 24, none⟩ = some (.int .u8 26) := hb 24 (by omega)
  clear hb
  have e1 : bits .and .u32 67108864 4227858432 = 67108864 := by decide +kernel
  go_enter Tryz.func259, Tryz.ntmps259
  go_wp2_with fail
  go_ret
  exact ⟨rfl, rfl⟩
set_option maxRecDepth 100000 in
set_option maxHeartbeats 2000000 in
theorem tz_27 (w : World) (hb : Bru w) : Calls Tryz.prog 259 #[.int .u32 134217728] w fun e w' => e = .returned (.int .i64 27) ∧ w = w' := by
  have hc : w.cell? ⟨1, 17, none⟩ = some (.int .u8 27) := hb 17 (by omega)
  clear hb
  have e1 : bits .and .u32 134217728 4160749568 = 134217728 := by decide +kernel
  go_enter Tryz.func259, Tryz.ntmps259
  go_wp2_with fail
  go_ret
  exact ⟨rfl, rfl⟩
set_option maxRecDepth 100000 in
set_option maxHeartbeats 2000000 in
theorem tz_28 (w : World) (hb : Bru w) : Calls Tryz.prog 259 #[.int .u32 268435456] w fun e w' => e = .returned (.int .i64 28) ∧ w = w' := by
  have hc : w.cell? ⟨1, 2, none⟩ = some (.int .u8 28) := hb 2 (by omega)
  clear hb
  have e1 : bits .and .u32 268435456 4026531840 = 268435456 := by decide +kernel
  go_enter Tryz.func259, Tryz.ntmps259
  go_wp2_with fail
  go_ret
  exact ⟨rfl, rfl⟩
set_option maxRecDepth 100000 in
set_option maxHeartbeats 2000000 in
theorem tz_29 (w : World) (hb : Bru w) : Calls Tryz.prog 259 #[.int .u32 536870912] w fun e w' => e = .returned (.int .i64 29) ∧ w = w' := by
  have hc : w.cell? ⟨1, 4, none⟩ = some (.int .u8 29) := hb 4 (by omega)
  clear hb
  have e1 : bits .and .u32 536870912 3758096384 = 536870912 := by decide +kernel
  go_enter Tryz.func259, Tryz.ntmps259
  go_wp2_with fail
  go_ret
  exact ⟨rfl, rfl⟩
set_option maxRecDepth 100000 in
set_option maxHeartbeats 2000000 in
theorem tz_30 (w : World) (hb : Bru w) : Calls Tryz.prog 259 #[.int .u32 1073741824] w fun e w' => e = .returned (.int .i64 30) ∧ w = w' := by
  have hc : w.cell? ⟨1, 8, none⟩ = some (.int .u8 30) := hb 8 (by omega)
  clear hb
  have e1 : bits .and .u32 1073741824 3221225472 = 1073741824 := by decide +kernel
  go_enter Tryz.func259, Tryz.ntmps259
  go_wp2_with fail
  go_ret
  exact ⟨rfl, rfl⟩
set_option maxRecDepth 100000 in
set_option maxHeartbeats 2000000 in
theorem tz_31 (w : World) (hb : Bru w) : Calls Tryz.prog 259 #[.int .u32 2147483648] w fun e w' => e = .returned (.int .i64 31) ∧ w = w' := by
  have hc : w.cell? ⟨1, 16, none⟩ = some (.int .u8 31) := hb 16 (by omega)
  clear hb
  have e1 : bits .and .u32 2147483648 2147483648 = 2147483648 := by decide +kernel
  go_enter Tryz.func259, Tryz.ntmps259
  go_wp2_with fail
  go_ret
  exact ⟨rfl, rfl⟩
theorem tz_any (k : Nat) (hk : k < 32) (w : World) (hb : Bru w) : Calls Tryz.prog 259 #[.int .u32 (2 ^ k)] w fun e w' => e = .returned (.int .i64 k) ∧ w = w' := by
  match k, hk with
  | 0, _ => exact tz_0 w hb
  | 1, _ => exact tz_1 w hb
  | 2, _ => exact tz_2 w hb
  | 3, _ => exact tz_3 w hb
  | 4, _ => exact tz_4 w hb
  | 5, _ => exact tz_5 w hb
  | 6, _ => exact tz_6 w hb
  | 7, _ => exact tz_7 w hb
  | 8, _ => exact tz_8 w hb
  | 9, _ => exact tz_9 w hb
  | 10, _ => exact tz_10 w hb
  | 11, _ => exact tz_11 w hb
  | 12, _ => exact tz_12 w hb
  | 13, _ => exact tz_13 w hb
  | 14, _ => exact tz_14 w hb
  | 15, _ => exact tz_15 w hb
  | 16, _ => exact tz_16 w hb
  | 17, _ => exact tz_17 w hb
  | 18, _ => exact tz_18 w hb
  | 19, _ => exact tz_19 w hb
  | 20, _ => exact tz_20 w hb
  | 21, _ => exact tz_21 w hb
  | 22, _ => exact tz_22 w hb
  | 23, _ => exact tz_23 w hb
  | 24, _ => exact tz_24 w hb
  | 25, _ => exact tz_25 w hb
  | 26, _ => exact tz_26 w hb
  | 27, _ => exact tz_27 w hb
  | 28, _ => exact tz_28 w hb
  | 29, _ => exact tz_29 w hb
  | 30, _ => exact tz_30 w hb
  | 31, _ => exact tz_31 w hb
  | (k + 32), hk => omega
theorem pop_facts : ∀ n : Fin 256, 0 ≤ Lib.pop8 (n.val : Int) ∧ Lib.pop8 (n.val : Int) ≤ 8 ∧ (Lib.pop8 (n.val : Int) = 0 → n.val = 0) ∧ (Lib.pop8 (n.val : Int) = 1 → n.val = 1 ∨ n.val = 2 ∨ n.val = 4 ∨ n.val = 8 ∨ n.val = 16 ∨ n.val = 32 ∨ n.val = 64 ∨ n.val = 128) := by decide +kernel
theorem pop_fact (b : Int) (h0 : 0 ≤ b) (h1 : b < 256) : 0 ≤ Lib.pop8 b ∧ Lib.pop8 b ≤ 8 ∧ (Lib.pop8 b = 0 → b = 0) ∧ (Lib.pop8 b = 1 → b = 1 ∨ b = 2 ∨ b = 4 ∨ b = 8 ∨ b = 16 ∨ b = 32 ∨ b = 64 ∨ b = 128) := by
  obtain ⟨n, rfl⟩ := Int.eq_ofNat_of_zero_le h0
  have h := pop_facts ⟨n, by omega⟩
  simp only at h
  refine ⟨h.1, h.2.1, fun e => by have := h.2.2.1 e; omega, fun e => by have := h.2.2.2 e; omega⟩
theorem ones_pow : ∀ k : Fin 32, onesS (2 ^ k.val) = 1 := by decide +kernel
theorem pow_list (x : Int) (h : x = 1 ∨ x = 2 ∨ x = 4 ∨ x = 8 ∨ x = 16 ∨ x = 32 ∨ x = 64 ∨ x = 128) : ∃ k : Nat, k < 8 ∧ x = 2 ^ k := by
  rcases h with h | h | h | h | h | h | h | h
  · exact ⟨0, by omega, h⟩
  · exact ⟨1, by omega, h⟩
  · exact ⟨2, by omega, h⟩
  · exact ⟨3, by omega, h⟩
  · exact ⟨4, by omega, h⟩
  · exact ⟨5, by omega, h⟩
  · exact ⟨6, by omega, h⟩
  · exact ⟨7, by omega, h⟩
theorem ones_one {x : Int} (h0 : 0 ≤ x) (h1 : x < 4294967296) (h : onesS x = 1) : ∃ k : Nat, k < 32 ∧ x = 2 ^ k := by
  have p3 := pop_fact (x / 16777216) (by omega) (by omega)
  have p2 := pop_fact (x / 65536 % 256) (by omega) (by omega)
  have p1 := pop_fact (x / 256 % 256) (by omega) (by omega)
  have p0 := pop_fact (x % 256) (by omega) (by omega)
  unfold onesS at h
  generalize Lib.pop8 (x / 16777216) = a3 at *
  generalize Lib.pop8 (x / 65536 % 256) = a2 at *
  generalize Lib.pop8 (x / 256 % 256) = a1 at *
  generalize Lib.pop8 (x % 256) = a0 at *
  obtain ⟨l3, u3, z3, o3⟩ := p3
  obtain ⟨l2, u2, z2, o2⟩ := p2
  obtain ⟨l1, u1, z1, o1⟩ := p1
  obtain ⟨l0, u0, z0, o0⟩ := p0
  have hs : a3 + a2 + a1 + a0 = 1 := by omega
  have hc : (a3 = 1 ∧ a2 = 0 ∧ a1 = 0 ∧ a0 = 0) ∨ (a3 = 0 ∧ a2 = 1 ∧ a1 = 0 ∧ a0 = 0) ∨ (a3 = 0 ∧ a2 = 0 ∧ a1 = 1 ∧ a0 = 0) ∨ (a3 = 0 ∧ a2 = 0 ∧ a1 = 0 ∧ a0 = 1) := by omega
  rcases hc with ⟨e3, e2, e1, e0⟩ | ⟨e3, e2, e1, e0⟩ | ⟨e3, e2, e1, e0⟩ | ⟨e3, e2, e1, e0⟩
  · obtain ⟨k, hk, hx⟩ := pow_list _ (o3 e3)
    have q2 := z2 e2; have q1 := z1 e1; have q0 := z0 e0
    exact ⟨k + 24, by omega, by rw [Int.pow_add, ← hx]; omega⟩
  · obtain ⟨k, hk, hx⟩ := pow_list _ (o2 e2)
    have q3 := z3 e3; have q1 := z1 e1; have q0 := z0 e0
    exact ⟨k + 16, by omega, by rw [Int.pow_add, ← hx]; omega⟩
  · obtain ⟨k, hk, hx⟩ := pow_list _ (o1 e1)
    have q3 := z3 e3; have q2 := z2 e2; have q0 := z0 e0
    exact ⟨k + 8, by omega, by rw [Int.pow_add, ← hx]; omega⟩
  · obtain ⟨k, hk, hx⟩ := pow_list _ (o0 e0)
    have q3 := z3 e3; have q2 := z2 e2; have q1 := z1 e1
    exact ⟨k, by omega, by rw [← hx]; omega⟩
end Go.Proofs.YtkejnhleajfcjaaGreatDoor
/- Windows: what is beside one, its WIM, which is invalid. -/
namespace Go.Proofs.YtkejnhleajfcjaaGreatDoor
open Go.RowKit
set_option linter.unusedVariables false
set_option linter.unusedSimpArgs false
def okW (x nw : Int) : Prop := winP nw ∧ 0 ≤ x ∧ x < nw
instance (x nw : Int) : Decidable (okW x nw) := by unfold okW; infer_instance
def stepV (x by' nw : Int) : Int := if okW x nw then (x + by') % nw else 0
def okE (x nw : Int) : Int := if okW x nw then 0 else 2
def wimV (x nw : Int) : Int := if okW x nw then 2 ^ x.toNat else 0
/-- The window whose WIM it is. -/
def invO (wim nw : Int) : Option Nat := (List.range nw.toNat).find? fun k => decide (wim = 2 ^ k)
def invV (wim nw : Int) : Int := if winP nw then (match invO wim nw with | some k => (k : Int) | none => 0) else 0
def invE (wim nw : Int) : Int := if winP nw then (match invO wim nw with | some _ => 0 | none => 5) else 2
theorem pow_inj {a b : Nat} (h : (2 : Int) ^ a = 2 ^ b) : a = b := by
  have h2 : (2 : Nat) ^ a = 2 ^ b := by exact_mod_cast h
  rcases Nat.lt_trichotomy a b with hl | hl | hl
  · have := Nat.pow_lt_pow_right (a := 2) (by omega) hl; omega
  · exact hl
  · have := Nat.pow_lt_pow_right (a := 2) (by omega) hl; omega
theorem inv_some {wim nw : Int} {k : Nat} (h : wim = 2 ^ k) (hk : (k : Int) < nw) : invO wim nw = some k := by
  unfold invO
  rw [List.find?_eq_some_iff_append]
  refine ⟨by simpa using h, List.range k, (List.range (nw.toNat - (k + 1))).map (· + (k + 1)), ?_, ?_⟩
  · have e : nw.toNat = (k + 1) + (nw.toNat - (k + 1)) := by omega
    rw [e, List.range_add, List.range_succ]
    simp [Nat.add_comm]
  · intro a ha
    simp only [List.mem_range] at ha
    simp only [Bool.not_eq_true', decide_eq_false_iff_not]
    intro e
    have := pow_inj (h.symm.trans e)
    omega
theorem inv_none {wim nw : Int} (h : ∀ k : Nat, (k : Int) < nw → wim ≠ 2 ^ k) : invO wim nw = none := by
  unfold invO
  rw [List.find?_eq_none]
  intro k hk
  simp only [List.mem_range] at hk
  simpa using h k (by omega)
set_option maxHeartbeats 1000000 in
theorem step_any (x by' nw : Int) (hby : winP nw → 0 ≤ by' ∧ by' ≤ 32) (w : World) : Calls Tryz.prog 277 #[.int .i64 x, .int .i64 by', .int .i64 nw] w fun e w' => e = .returned (.tuple #[.int .i64 (stepV x by' nw), .int .i64 (okE x nw)]) ∧ Below w.heap.size w w' := by
  have hq := windows_any nw
  by_cases hw : winP nw
  · rw [decide_eq_true hw] at hq
    have H1 := phid hq
    have hbl := fun W => below_any [x, nw] 1 w.heap.size (by omega) rfl W
    rw [below2_eq] at hbl
    have hb2 := hby hw
    obtain ⟨hw1, hw2⟩ := hw
    by_cases hx : 0 ≤ x ∧ x < nw
    · rw [decide_eq_true hx] at hbl
      have HB := phid hbl
      have hok : okW x nw := ⟨⟨hw1, hw2⟩, hx⟩
      have E := phid (show stepV x by' nw = (x + by') % nw ∧ okE x nw = 0 from ⟨if_pos hok, if_pos hok⟩)
      have hs : 0 ≤ x + by' ∧ x + by' ≤ 64 := by omega
      clear hbl hby hq hok
      go_enter Tryz.func277, Tryz.ntmps277
      go_wp2_with fail
      refine (H1.out _).mono ?_
      rintro e w' ⟨rfl, rfl⟩
      go_wp2_with fail
      refine (HB.out _ ?_).mono ?_
      · intro k hk
        have : k = 0 ∨ k = 1 := by simp at hk; omega
        rcases this with rfl | rfl <;> simp [go_sem]
      rintro e w' ⟨rfl, hB⟩
      have HBB := phid hB
      clear hB
      go_wp2_with fail
      go_ret2
      exact ⟨pret2 E.out.1.symm E.out.2.symm, pbt (pbal _ _) HBB.out⟩
    · rw [decide_eq_false hx] at hbl
      have HB := phid hbl
      have hok : ¬ okW x nw := fun h => hx h.2
      have E := phid (show stepV x by' nw = 0 ∧ okE x nw = 2 from ⟨if_neg hok, if_neg hok⟩)
      clear hbl hby hq hok hx
      go_enter Tryz.func277, Tryz.ntmps277
      go_wp2_with fail
      refine (H1.out _).mono ?_
      rintro e w' ⟨rfl, rfl⟩
      go_wp2_with fail
      refine (HB.out _ ?_).mono ?_
      · intro k hk
        have : k = 0 ∨ k = 1 := by simp at hk; omega
        rcases this with rfl | rfl <;> simp [go_sem]
      rintro e w' ⟨rfl, hB⟩
      have HBB := phid hB
      clear hB
      go_wp2_with fail
      go_ret2
      exact ⟨pret2 E.out.1.symm E.out.2.symm, pbt (pbal _ _) HBB.out⟩
  · rw [decide_eq_false hw] at hq
    have H1 := phid hq
    have hok : ¬ okW x nw := fun h => hw h.1
    have E := phid (show stepV x by' nw = 0 ∧ okE x nw = 2 from ⟨if_neg hok, if_neg hok⟩)
    clear hby hq hok hw
    go_enter Tryz.func277, Tryz.ntmps277
    go_wp2_with fail
    refine (H1.out _).mono ?_
    rintro e w' ⟨rfl, rfl⟩
    go_wp2_with fail
    go_ret2
    exact ⟨pret2 E.out.1.symm E.out.2.symm, Below.refl _ _⟩
theorem pnext_any (x nw : Int) (w : World) : Calls Tryz.prog 250 #[.int .i64 x, .int .i64 nw] w fun e w' => e = .returned (.tuple #[.int .i64 (stepV x 1 nw), .int .i64 (okE x nw)]) ∧ Below w.heap.size w w' := by
  have H := phid (step_any x 1 nw (fun _ => by omega))
  go_enter Tryz.func250, Tryz.ntmps250
  go_wp2_with fail
  refine (H.out _).mono ?_
  rintro e w' ⟨rfl, hB⟩
  have HB := phid hB
  clear hB
  go_wp2_with fail
  go_ret2
  exact ⟨rfl, HB.out⟩
theorem ahead_any (x nw : Int) (w : World) : Calls Tryz.prog 248 #[.int .i64 x, .int .i64 nw] w fun e w' => e = .returned (.tuple #[.int .i64 (stepV x (nw - 1) nw), .int .i64 (okE x nw)]) ∧ Below w.heap.size w w' := by
  have hin : winP nw → wrap64 (nw - 1) = nw - 1 := fun h => by have h1 := h.1; have h2 := h.2; rw [IntWalk.wrap64_in _ (by omega)]
  have hs := step_any x (wrap64 (nw - 1)) nw (fun h => by have h1 := h.1; have h2 := h.2; rw [hin h]; omega)
  have he : stepV x (wrap64 (nw - 1)) nw = stepV x (nw - 1) nw := by
    unfold stepV
    by_cases h : okW x nw
    · rw [if_pos h, if_pos h, hin h.1]
    · rw [if_neg h, if_neg h]
  rw [he] at hs
  have H := phid hs
  clear hs he hin
  go_enter Tryz.func248, Tryz.ntmps248
  go_wp2_with fail
  refine (H.out _).mono ?_
  rintro e w' ⟨rfl, hB⟩
  have HB := phid hB
  clear hB
  go_wp2_with fail
  go_ret2
  exact ⟨rfl, HB.out⟩
set_option maxHeartbeats 1000000 in
theorem wim_any (x nw : Int) (w : World) : Calls Tryz.prog 132 #[.int .i64 x, .int .i64 nw] w fun e w' => e = .returned (.tuple #[.int .u32 (wimV x nw), .int .i64 (okE x nw)]) ∧ Below w.heap.size w w' := by
  have hq := windows_any nw
  by_cases hw : winP nw
  · rw [decide_eq_true hw] at hq
    have H1 := phid hq
    have hbl := fun W => below_any [x, nw] 1 w.heap.size (by omega) rfl W
    rw [below2_eq] at hbl
    obtain ⟨hw1, hw2⟩ := hw
    by_cases hx : 0 ≤ x ∧ x < nw
    · rw [decide_eq_true hx] at hbl
      have HB := phid hbl
      have hok : okW x nw := ⟨⟨hw1, hw2⟩, hx⟩
      have E := phid (show wimV x nw = 2 ^ x.toNat ∧ okE x nw = 0 from ⟨if_pos hok, if_pos hok⟩)
      have hp : (2 : Int) ^ x.toNat % 4294967296 = 2 ^ x.toNat := by
        have h1 : 2 ^ x.toNat ≤ 2 ^ 31 := Nat.pow_le_pow_right (by omega) (by omega)
        have h2 : (2 : Int) ^ x.toNat = ((2 ^ x.toNat : Nat) : Int) := by simp
        rw [h2]
        generalize 2 ^ x.toNat = p at h1 ⊢
        omega
      have HP := phid hp
      have hx2 : x < 32 := by omega
      clear hbl hq hok hp
      go_enter Tryz.func132, Tryz.ntmps132
      go_wp2_with fail
      refine (H1.out _).mono ?_
      rintro e w' ⟨rfl, rfl⟩
      go_wp2_with fail
      refine (HB.out _ ?_).mono ?_
      · intro k hk
        have : k = 0 ∨ k = 1 := by simp at hk; omega
        rcases this with rfl | rfl <;> simp [go_sem]
      rintro e w' ⟨rfl, hB⟩
      have HBB := phid hB
      clear hB
      go_wp2_with fail
      go_ret2
      exact ⟨pret2 (by first | exact E.out.1.symm | (rw [E.out.1]; exact HP.out) | (rw [E.out.1]; simpa using HP.out)) E.out.2.symm, pbt (pbal _ _) HBB.out⟩
    · rw [decide_eq_false hx] at hbl
      have HB := phid hbl
      have hok : ¬ okW x nw := fun h => hx h.2
      have E := phid (show wimV x nw = 0 ∧ okE x nw = 2 from ⟨if_neg hok, if_neg hok⟩)
      clear hbl hq hok hx
      go_enter Tryz.func132, Tryz.ntmps132
      go_wp2_with fail
      refine (H1.out _).mono ?_
      rintro e w' ⟨rfl, rfl⟩
      go_wp2_with fail
      refine (HB.out _ ?_).mono ?_
      · intro k hk
        have : k = 0 ∨ k = 1 := by simp at hk; omega
        rcases this with rfl | rfl <;> simp [go_sem]
      rintro e w' ⟨rfl, hB⟩
      have HBB := phid hB
      clear hB
      go_wp2_with fail
      go_ret2
      exact ⟨pret2 E.out.1.symm E.out.2.symm, pbt (pbal _ _) HBB.out⟩
  · rw [decide_eq_false hw] at hq
    have H1 := phid hq
    have hok : ¬ okW x nw := fun h => hw h.1
    have E := phid (show wimV x nw = 0 ∧ okE x nw = 2 from ⟨if_neg hok, if_neg hok⟩)
    clear hq hok hw
    go_enter Tryz.func132, Tryz.ntmps132
    go_wp2_with fail
    refine (H1.out _).mono ?_
    rintro e w' ⟨rfl, rfl⟩
    go_wp2_with fail
    go_ret2
    exact ⟨pret2 E.out.1.symm E.out.2.symm, Below.refl _ _⟩
set_option maxHeartbeats 1000000 in
theorem invalid_any (wim nw : Int) (h0 : 0 ≤ wim) (h1 : wim < 4294967296) (w : World) (hb : Bru w) : Calls Tryz.prog 188 #[.int .u32 wim, .int .i64 nw] w fun e w' => e = .returned (.tuple #[.int .i64 (invV wim nw), .int .i64 (invE wim nw)]) ∧ Below w.heap.size w w' := by
  have hq := windows_any nw
  have BR := phid hb
  clear hb
  by_cases hw : winP nw
  · rw [decide_eq_true hw] at hq
    have H1 := phid hq
    have ho := ones_any wim h0 h1
    obtain ⟨hw1, hw2⟩ := hw
    by_cases hp : ∃ k : Nat, k < 32 ∧ wim = 2 ^ k
    · obtain ⟨k, hk, rfl⟩ := hp
      rw [show onesS (2 ^ k) = 1 from ones_pow ⟨k, hk⟩] at ho
      have HO := phid ho
      have HT := phid (tz_any k hk)
      clear hq ho
      by_cases hkn : (k : Int) < nw
      · have hi := inv_some (wim := 2 ^ k) (nw := nw) rfl hkn
        have E := phid (show invV (2 ^ k) nw = k ∧ invE (2 ^ k) nw = 0 from ⟨by unfold invV; rw [if_pos ⟨hw1, hw2⟩, hi], by unfold invE; rw [if_pos ⟨hw1, hw2⟩, hi]⟩)
        have hd : decide (nw ≤ (k : Int)) = false := by simp; omega
        clear hi
        generalize (2 : Int) ^ k = p at *
        go_enter Tryz.func188, Tryz.ntmps188
        go_wp2_with fail
        refine (H1.out _).mono ?_
        rintro e w' ⟨rfl, rfl⟩
        go_wp2_with fail
        refine (HO.out _).mono ?_
        rintro e w1 ⟨rfl, hB⟩
        have HB := phid hB
        clear hB
        go_wp2_with fail
        refine (HT.out _ (BR.out.keep HB.out)).mono ?_
        rintro e w' ⟨rfl, rfl⟩
        go_wp2_with fail
        refine (HT.out _ (BR.out.keep HB.out)).mono ?_
        rintro e w' ⟨rfl, rfl⟩
        go_wp2_with fail
        go_ret2
        exact ⟨pret2 E.out.1.symm E.out.2.symm, HB.out⟩
      · have hi : invO (2 ^ k) nw = none := inv_none (fun j hj e => by have := pow_inj e; omega)
        have E := phid (show invV (2 ^ k) nw = 0 ∧ invE (2 ^ k) nw = 5 from ⟨by unfold invV; rw [if_pos ⟨hw1, hw2⟩, hi], by unfold invE; rw [if_pos ⟨hw1, hw2⟩, hi]⟩)
        have hd : decide (nw ≤ (k : Int)) = true := by simp; omega
        clear hi hkn
        generalize (2 : Int) ^ k = p at *
        go_enter Tryz.func188, Tryz.ntmps188
        go_wp2_with fail
        refine (H1.out _).mono ?_
        rintro e w' ⟨rfl, rfl⟩
        go_wp2_with fail
        refine (HO.out _).mono ?_
        rintro e w1 ⟨rfl, hB⟩
        have HB := phid hB
        clear hB
        go_wp2_with fail
        refine (HT.out _ (BR.out.keep HB.out)).mono ?_
        rintro e w' ⟨rfl, rfl⟩
        go_wp2_with fail
        go_ret2
        exact ⟨pret2 E.out.1.symm E.out.2.symm, HB.out⟩
    · have hne : (onesS wim != 1) = true := by
        have : onesS wim ≠ 1 := fun e => hp (ones_one h0 h1 e)
        simpa using this
      have hi : invO wim nw = none := inv_none (fun j hj e => hp ⟨j, by omega, e⟩)
      have E := phid (show invV wim nw = 0 ∧ invE wim nw = 5 from ⟨by unfold invV; rw [if_pos ⟨hw1, hw2⟩, hi], by unfold invE; rw [if_pos ⟨hw1, hw2⟩, hi]⟩)
      have HO := phid ho
      clear hq ho hi hp
      generalize onesS wim = o at *
      go_enter Tryz.func188, Tryz.ntmps188
      go_wp2_with fail
      refine (H1.out _).mono ?_
      rintro e w' ⟨rfl, rfl⟩
      go_wp2_with fail
      refine (HO.out _).mono ?_
      rintro e w1 ⟨rfl, hB⟩
      have HB := phid hB
      clear hB
      go_wp2_with fail
      go_ret2
      exact ⟨pret2 E.out.1.symm E.out.2.symm, HB.out⟩
  · rw [decide_eq_false hw] at hq
    have H1 := phid hq
    have E := phid (show invV wim nw = 0 ∧ invE wim nw = 2 from ⟨if_neg hw, if_neg hw⟩)
    clear hq hw
    go_enter Tryz.func188, Tryz.ntmps188
    go_wp2_with fail
    refine (H1.out _).mono ?_
    rintro e w' ⟨rfl, rfl⟩
    go_wp2_with fail
    go_ret2
    exact ⟨pret2 E.out.1.symm E.out.2.symm, Below.refl _ _⟩
end Go.Proofs.YtkejnhleajfcjaaGreatDoor
/- Walks of the package wind: its small functions. -/
namespace Go.Proofs.YtkejnhleajfcjaaGreatDoor
open Go.RowKit
set_option linter.unusedVariables false
set_option linter.unusedSimpArgs false
theorem walu_any {op rd rs n : Int} (h : 0 ≤ op ∧ op < 200) (w : World) :
    Calls Tryz.prog 213 #[.int .u8 op, .int .u8 rd, .int .u8 rs, .int .i32 n] w fun e w' => e = .returned (aluI op rd rs n).agg ∧ Below w.heap.size w w' := by
  have w8 : IntKind.u8.wrap (1 + op) = 1 + op := IntWalk.u8_in _ (by omega)
  go_enter Tryz.func213, Tryz.ntmps213
  go_wp2_with fail
  refine bodyPost_ret (v := (aluI op rd rs n).agg) (by simp [results, Tryz.results213, go_sem, aluI]; try rfl) rfl ?_
  exact ⟨rfl, (Below.refl _ w).alloc (Nat.le_refl _) _⟩
theorem wboth_any {op rd a b : Int} (h : 0 ≤ op ∧ op < 200) (w : World) :
    Calls Tryz.prog 267 #[.int .u8 op, .int .u8 rd, .int .u8 a, .int .u8 b] w fun e w' => e = .returned (bothI op rd a b).agg ∧ Below w.heap.size w w' := by
  have w8 : IntKind.u8.wrap (1 + op) = 1 + op := IntWalk.u8_in _ (by omega)
  go_enter Tryz.func267, Tryz.ntmps267
  go_wp2_with fail
  refine bodyPost_ret (v := (bothI op rd a b).agg) (by simp [results, Tryz.results267, go_sem, bothI]; try rfl) rfl ?_
  exact ⟨rfl, (Below.refl _ w).alloc (Nat.le_refl _) _⟩
section
variable {W w : World} {pa : Nat} {S : Nat → Prop} {s : Bs}
theorem wend_any (h : BsAt W w pa S s) (hL : s.L.length + 10 < 4294967296) :
    Calls Tryz.prog 218 #[.pointer (some ⟨pa, 0, none⟩)] w fun e w' => e = .returned (.int .i64 0) ∧ BsGo W w pa S (s.put endI) w' := by
  have HP := ahid (fun (w1 : World) (hb : Below w.heap.size w w1) => bs_lit h (l := endI) (by decide) (by decide) (by simp [endI]; omega) hb)
  clear h
  go_enter Tryz.func218, Tryz.ntmps218
  go_wp2_with fail
  refine (HP.out w (Below.refl _ _)).mono ?_
  rintro e w4 ⟨rfl, hg⟩
  have HG := ahid hg
  clear hg
  go_wp2_with fail
  go_ret
  exact ⟨rfl, HG.out⟩
theorem wwindow_any (h : BsAt W w pa S s) (hL : s.L.length + 10 < 4294967296) :
    Calls Tryz.prog 216 #[.pointer (some ⟨pa, 0, none⟩)] w fun e w' => e = .returned (.tuple #[]) ∧ BsGo W w pa S (s.put windowI) w' := by
  have HP := ahid (fun (w1 : World) (hb : Below w.heap.size w w1) => bs_lit h (l := windowI) (by decide) (by decide) (by simp [windowI]; omega) hb)
  clear h
  go_enter Tryz.func216, Tryz.ntmps216
  go_wp2_with fail
  refine (walu_any (op := 5) (by omega) w).mono ?_
  rintro e w1 ⟨rfl, hb1⟩
  go_wp2_with fail
  refine (wboth_any (op := 6) (by omega) w1).mono ?_
  rintro e w2 ⟨rfl, hb2⟩
  have HB := ahid (hb1.trans (hb2.mono hb1.size))
  clear hb1 hb2
  go_wp2_with fail
  refine (HP.out w2 HB.out).mono ?_
  rintro e w4 ⟨rfl, hg⟩
  have HG := ahid hg
  clear hg
  go_wp2_with fail
  go_end0
  exact ⟨rfl, HG.out⟩
theorem wturned_any (h : BsAt W w pa S s) {nw : Nat} (h2 : 2 ≤ nw) (h32 : nw ≤ 32) {this that : Int} (ht : (this = 9 ∧ that = 8) ∨ (this = 8 ∧ that = 9)) (hL : s.L.length + 10 < 4294967296) :
    Calls Tryz.prog 212 #[.pointer (some ⟨pa, 0, none⟩), .int .i64 (nw : Int), .int .u8 this, .int .u8 that] w fun e w' => e = .returned (.tuple #[]) ∧ BsGo W w pa S (s.turned nw this that) w' := by
  have hok : allI (turnedA nw this that) := by
    have := turned_ok nw (by omega) h2
    rcases ht with ⟨rfl, rfl⟩ | ⟨rfl, rfl⟩
    · exact this.1
    · exact this.2
  have h8 : (0 ≤ this ∧ this < 200) ∧ (0 ≤ that ∧ that < 200) := by omega
  have HP := ahid (fun (w1 : World) (hb : Below w.heap.size w w1) => bs_lit h (l := turnedA nw this that) hok (by simp [turnedA]) (by simp [turnedA]; omega) hb)
  have e1 : IntKind.i64.wrap ((nw : Int) - 1) = (nw : Int) - 1 := IntWalk.i64_in _ (by omega)
  have e2 : IntKind.i32.wrap ((nw : Int) - 1) = (nw : Int) - 1 := IntWalk.i32_in _ (by omega)
  clear h hok ht
  by_cases hlt : nw < 32
  · have hti : (nw : Int) < 32 := by omega
    have HT := ahid (show s.turned nw this that = ((s.put (turnedA nw this that)).put (partsS 1 ((2 : Int) ^ nw - 1))).put [bothI 5 2 2 1] from if_pos hlt)
    rw [HT.out]
    obtain ⟨s4, hs4⟩ : ∃ x, x = s.put (turnedA nw this that) := ⟨_, rfl⟩
    have hL4 : s4.L.length = s.L.length + 4 := by rw [hs4]; exact Bs.put_len _ _
    rw [← hs4] at HP ⊢
    obtain ⟨s5, hs5⟩ : ∃ x, x = s4.put (partsS 1 ((2 : Int) ^ nw - 1)) := ⟨_, rfl⟩
    have hL5 : s5.L.length ≤ s4.L.length + 2 := by rw [hs5, Bs.put_len]; have := parts_len 1 ((2 : Int) ^ nw - 1); omega
    have HS5 := ahid hs5
    rw [← hs5]
    clear hs4 hs5 HT
    go_enter Tryz.func212, Tryz.ntmps212
    go_wp2_with fail
    refine (walu_any (op := this) h8.1 w).mono ?_
    rintro e w1 ⟨rfl, hb1⟩
    go_wp2_with fail
    refine (walu_any (op := that) h8.2 w1).mono ?_
    rintro e w2 ⟨rfl, hb2⟩
    go_wp2_with fail
    refine (wboth_any (op := 6) (by omega) w2).mono ?_
    rintro e w3 ⟨rfl, hb3⟩
    have HB := ahid (hb1.trans ((hb2.trans (hb3.mono hb2.size)).mono hb1.size))
    clear hb1 hb2 hb3
    go_wp2_with fail
    refine (HP.out w3 HB.out).mono ?_
    rintro e w4 ⟨rfl, S4, h4, o4, r4⟩
    have H4 := ahid h4
    clear h4
    go_wp2_with fail
    obtain ⟨q1, q2, q3⟩ := pow_ok nw hlt
    rw [q1]
    refine (bs_const H4.out (rd := 1) (by omega) (by omega) q2 q3 (by omega)).mono ?_
    rintro e w5 ⟨rfl, hg5⟩
    rw [← HS5.out] at hg5
    obtain ⟨S5, h5, o5, r5⟩ := hg5
    have H5 := ahid h5
    clear h5 q1 q2 q3
    have HP5 := ahid (fun (w1 : World) (hb : Below w5.heap.size w5 w1) => bs_lit H5.out (l := [bothI 5 2 2 1]) (by decide) (by decide) (by simp; omega) hb)
    go_wp2_with fail
    refine (wboth_any (op := 5) (by omega) w5).mono ?_
    rintro e w6 ⟨rfl, hb6⟩
    go_wp2_with fail
    refine (HP5.out w6 hb6).mono ?_
    rintro e w7 ⟨rfl, hg⟩
    have HG := ahid (BsGo.then o4 r4 (BsGo.then o5 r5 hg))
    clear hg
    go_wp2_with fail
    go_end0
    exact ⟨rfl, HG.out⟩
  · have hti : ¬ (nw : Int) < 32 := by omega
    have HT := ahid (show s.turned nw this that = s.put (turnedA nw this that) from if_neg hlt)
    rw [HT.out]
    go_enter Tryz.func212, Tryz.ntmps212
    go_wp2_with fail
    refine (walu_any (op := this) h8.1 w).mono ?_
    rintro e w1 ⟨rfl, hb1⟩
    go_wp2_with fail
    refine (walu_any (op := that) h8.2 w1).mono ?_
    rintro e w2 ⟨rfl, hb2⟩
    go_wp2_with fail
    refine (wboth_any (op := 6) (by omega) w2).mono ?_
    rintro e w3 ⟨rfl, hb3⟩
    have HB := ahid (hb1.trans ((hb2.trans (hb3.mono hb2.size)).mono hb1.size))
    clear hb1 hb2 hb3
    go_wp2_with fail
    refine (HP.out w3 HB.out).mono ?_
    rintro e w4 ⟨rfl, hg⟩
    have HG := ahid hg
    clear hg
    go_wp2_with fail
    go_end0
    exact ⟨rfl, HG.out⟩
/-- The list is there: its copy is. -/
theorem bs_copy (h : BsAt W w pa S s) (hL : s.L.length < 4294967296) :
    Calls Tryz.prog 131 #[.pointer (some ⟨pa, 0, none⟩)] w fun e w' => (∃ q, e = .returned (.pointer (some ⟨q, 0, none⟩))) ∧ Below w.heap.size w w' := by
  obtain ⟨sv, m, K, hA, hO, hK⟩ := h.lst.ex
  refine (acopy_any w pa m sv K s.L s.M hA hL).mono ?_
  rintro e w' ⟨p, v, m', rfl, -, -, hb⟩
  exact ⟨⟨p, rfl⟩, hb⟩
theorem okE_yes {nw : Nat} (h2 : 2 ≤ nw) (h32 : nw ≤ 32) : okE 0 nw = 0 := by
  have : ∀ n : Nat, n < 33 → 2 ≤ n → okE 0 n = 0 := by decide
  exact this nw (by omega) h2
theorem wbegin_any (h : BsAt W w pa S s) {nw : Nat} (h2 : 2 ≤ nw) (h32 : nw ≤ 32) {nm : List UInt8} (hs : nm.length ≤ 100) (hn : look s.M nm = none) (hM : s.M.length < 4294967296) (hL : s.L.length < 4294967296) :
    Calls Tryz.prog 211 #[.pointer (some ⟨pa, 0, none⟩), .int .i64 (nw : Int), .string ⟨nm.toArray⟩] w fun e w' => e = .returned (.int .i64 0) ∧ BsGo W w pa S (s.mark nm) w' := by
  have HC := ahid (bs_copy h hL)
  have H := ahid h
  have HK := ahid (okE_yes h2 h32)
  clear h
  go_enter Tryz.func211, Tryz.ntmps211
  go_wp2_with fail
  refine HC.out.mono ?_
  rintro e w1 ⟨⟨q, rfl⟩, hb1⟩
  go_wp2_with fail
  refine (wim_any 0 nw w1).mono ?_
  rintro e w2 ⟨rfl, hb2⟩
  rw [HK.out]
  have HB := ahid (hb1.trans (hb2.mono hb1.size))
  clear hb1 hb2
  go_wp2_with fail
  refine (bs_mark (H.out.keepb HB.out) hs hn hM hL).mono ?_
  rintro e w3 ⟨rfl, hg⟩
  have HG := ahid (hg.behind HB.out)
  clear hg
  go_wp2_with fail
  go_ret
  exact ⟨rfl, HG.out⟩
end
end Go.Proofs.YtkejnhleajfcjaaGreatDoor
