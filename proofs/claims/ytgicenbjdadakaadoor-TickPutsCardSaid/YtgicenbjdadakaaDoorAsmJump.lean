/- Walks of the package asm: far whatever it is given; Jump, Call. -/
import Derived.Test.YtgicenbjdadakaaDoorAsmWords
namespace Go.Proofs.YtgicenbjdadakaaDoor
open Go.RowKit Go.Maps
set_option linter.unusedVariables false
set_option linter.unusedSimpArgs false
/-- What far leaves. -/
def FarOk (w : World) (p : Nat) (sv : Value) (m : Nat) (K : Nat → Prop) (L : List It) (M : List (List UInt8 × Int)) (x : Ix) (nm : ByteArray) (e : Ending) (w' : World) : Prop :=
  if mayP x then e = .returned (.int .i64 0) ∧ AddOk w p sv m K L M [.far x nm] w' else e = .returned (.int .i64 2) ∧ Below w.heap.size w w'
set_option maxRecDepth 100000 in
set_option maxHeartbeats 1000000 in
theorem afar_any (w : World) (ht : Tab w) (p m : Nat) (sv : Value) (K : Nat → Prop) (L : List It) (M : List (List UInt8 × Int)) (h : AsmAt w p sv m K L M) (x : Ix) (hx : x.bd) (nm : ByteArray) (hs : nm.size ≤ maxLen) (hL : L.length < 4294967296) :
    Calls Tryd.prog 31 #[.pointer (some ⟨p, 0, none⟩), x.agg, .string nm] w (FarOk w p sv m K L M x nm) := by
  by_cases hm : mayP x
  · exact (afar_put w ht p m sv K L M h x hx hm nm hs hL).mono fun e w' hh => by unfold FarOk; rw [if_pos hm]; exact hh
  · have hE := fun W hW => encode_any x hx W hW
    rw [show encE x = 2 from if_neg hm] at hE
    have hfin : ∀ w', Below w.heap.size w w' → FarOk w p sv m K L M x nm (.returned (.int .i64 2)) w' := fun w' hb => by unfold FarOk; rw [if_neg hm]; exact ⟨rfl, hb⟩
    have HF := ahid hfin
    have HE := ahid hE
    have H := ahid h
    have HT := ahid ht
    clear h ht hfin hE hx hm hs
    obtain ⟨op, rd, rs1, rs2, is, imm⟩ := x
    go_enter Tryd.func31, Tryd.ntmps31
    go_wp2_with fail
    have hb1 : Below w.heap.size w ((w.alloc (.cells #[.int .u8 op, .int .u8 rd, .int .u8 rs1, .int .u8 rs2, .bool is, .int .i32 imm] 55)).alloc (.cells #[.string nm] 9)) := ((Below.refl _ _).alloc (Nat.le_refl _) _).alloc (by simp) _
    have d0 : ∀ (i : Nat) (u : Value), (Ix.mk op rd rs1 rs2 is imm).agg.cells[i]? = some u → ((w.alloc (.cells #[.int .u8 op, .int .u8 rd, .int .u8 rs1, .int .u8 rs2, .bool is, .int .i32 imm] 55)).alloc (.cells #[.string nm] 9)).cell? ⟨w.heap.size, i, none⟩ = some u := fun i u hu => by
      refine Lib.cell?_alloc_some _ ?_
      simp only [World.cell?, (MapKept.heap_alloc w _).1]
      simpa [Value.cells] using hu
    generalize (w.alloc (.cells #[.int .u8 op, .int .u8 rd, .int .u8 rs1, .int .u8 rs2, .bool is, .int .i32 imm] 55)).alloc (.cells #[.string nm] 9) = w1 at *
    have HA1 := ahid (H.out.keep (Only.of_below (S := fun _ => False) hb1) (fun _ _ h => h) (fun _ _ h => h))
    have HT1 := ahid (HT.out.keep hb1)
    have HB1 := ahid hb1
    clear hb1
    obtain ⟨_, c1, _, _⟩ := HA1.out.cells
    have e0 := d0 0 _ rfl
    have e1 := d0 1 _ rfl
    have e2 := d0 2 _ rfl
    have e3 := d0 3 _ rfl
    have e4 := d0 4 _ rfl
    have e5 := d0 5 _ rfl
    clear d0
    refine (anone_made w1 p m c1).mono ?_
    rintro e w' ⟨rfl, rfl⟩
    go_wp2_with fail
    refine (HE.out _ HT1.out).mono ?_
    rintro e w2 ⟨rfl, bl⟩
    have HB2 := ahid (HB1.out.trans (bl.mono HB1.out.size))
    clear bl
    go_wp2_with fail
    go_ret
    exact HF.out _ HB2.out
theorem jump_bd {c : Int} (h0 : 0 ≤ c) (h1 : c < 256) : (Ix.mk 17 c 0 0 true 0).bd := by unfold Ix.bd; simp only; omega
theorem call_bd : (Ix.mk 18 0 0 0 true 0).bd := by unfold Ix.bd; simp only; omega
theorem jump_may {c : Int} (h0 : 0 ≤ c) : mayP (Ix.mk 17 c 0 0 true 0) ↔ c ≤ 6 := by
  have hk : kindS 17 = 4 := by decide
  unfold mayP okS
  simp only [hk]
  constructor
  · intro h; have := h.2.2.2; simp at this; exact this
  · intro h; refine ⟨by omega, by omega, by omega, ?_⟩; simp; exact h
theorem call_may : mayP (Ix.mk 18 0 0 0 true 0) := by decide
set_option maxRecDepth 100000 in
theorem ajump_any (w : World) (ht : Tab w) (p m : Nat) (sv : Value) (K : Nat → Prop) (L : List It) (M : List (List UInt8 × Int)) (h : AsmAt w p sv m K L M) (c : Int) (hc0 : 0 ≤ c) (hc1 : c < 256) (nm : ByteArray) (hs : nm.size ≤ maxLen) (hL : L.length < 4294967296) :
    Calls Tryd.prog 18 #[.pointer (some ⟨p, 0, none⟩), .int .u8 c, .string nm] w (FarOk w p sv m K L M ⟨17, c, 0, 0, true, 0⟩ nm) := by
  have HC := ahid (afar_any w ht p m sv K L M h ⟨17, c, 0, 0, true, 0⟩ (jump_bd hc0 hc1) nm hs hL)
  clear h ht hs hL hc0 hc1
  go_enter Tryd.func18, Tryd.ntmps18
  go_wp2_with fail
  refine HC.out.mono ?_
  intro e w' hh
  have : e = .returned (.int .i64 (if mayP ⟨17, c, 0, 0, true, 0⟩ then 0 else 2)) := by unfold FarOk at hh; split at hh <;> simp_all
  subst this
  have HH := ahid hh
  clear hh
  generalize (if mayP ⟨17, c, 0, 0, true, 0⟩ then (0 : Int) else 2) = q at *
  go_wp2_with fail
  go_ret
  exact HH.out
set_option maxRecDepth 100000 in
theorem acall_any (w : World) (ht : Tab w) (p m : Nat) (sv : Value) (K : Nat → Prop) (L : List It) (M : List (List UInt8 × Int)) (h : AsmAt w p sv m K L M) (nm : ByteArray) (hs : nm.size ≤ maxLen) (hL : L.length < 4294967296) :
    Calls Tryd.prog 19 #[.pointer (some ⟨p, 0, none⟩), .string nm] w (FarOk w p sv m K L M ⟨18, 0, 0, 0, true, 0⟩ nm) := by
  have HC := ahid (afar_any w ht p m sv K L M h ⟨18, 0, 0, 0, true, 0⟩ call_bd nm hs hL)
  clear h ht hs hL
  go_enter Tryd.func19, Tryd.ntmps19
  go_wp2_with fail
  refine HC.out.mono ?_
  intro e w' hh
  have : e = .returned (.int .i64 (if mayP ⟨18, 0, 0, 0, true, 0⟩ then 0 else 2)) := by unfold FarOk at hh; split at hh <;> simp_all
  subst this
  have HH := ahid hh
  clear hh
  generalize (if mayP ⟨18, 0, 0, 0, true, 0⟩ then (0 : Int) else 2) = q at *
  go_wp2_with fail
  go_ret
  exact HH.out
theorem ajump_none (w : World) (a : Value) (c : Int) (nm : ByteArray) (hn : ∀ W, Below w.heap.size w W → Calls Tryd.prog 25 #[a] W fun e w' => e = .returned (.bool true) ∧ W = w') :
    Calls Tryd.prog 18 #[a, .int .u8 c, .string nm] w fun e w' => e = .returned (.int .i64 1) ∧ Below w.heap.size w w' := by
  have HC := ahid (afar_none w a ⟨17, c, 0, 0, true, 0⟩ nm hn)
  clear hn
  go_enter Tryd.func18, Tryd.ntmps18
  go_wp2_with fail
  refine HC.out.mono ?_
  rintro e w' ⟨rfl, hb⟩
  have HB := ahid hb
  clear hb
  go_wp2_with fail
  go_ret
  exact ⟨rfl, HB.out⟩
theorem acall_none (w : World) (a : Value) (nm : ByteArray) (hn : ∀ W, Below w.heap.size w W → Calls Tryd.prog 25 #[a] W fun e w' => e = .returned (.bool true) ∧ W = w') :
    Calls Tryd.prog 19 #[a, .string nm] w fun e w' => e = .returned (.int .i64 1) ∧ Below w.heap.size w w' := by
  have HC := ahid (afar_none w a ⟨18, 0, 0, 0, true, 0⟩ nm hn)
  clear hn
  go_enter Tryd.func19, Tryd.ntmps19
  go_wp2_with fail
  refine HC.out.mono ?_
  rintro e w' ⟨rfl, hb⟩
  have HB := ahid hb
  clear hb
  go_wp2_with fail
  go_ret
  exact ⟨rfl, HB.out⟩
end Go.Proofs.YtgicenbjdadakaaDoor
