/- Several texts in one: AsmRef, InstRKind, InstRMayNo. -/
import Derived.Test.YtkejnhleajfcjaaGreatDoorGD
import Derived.Test.YtkejnhleajfcjaaGreatDoorGB
import Derived.Outline
/- The document's list (muntinref07): how it lies; the walk of At. -/
namespace Go.Proofs.YtkejnhleajfcjaaGreatDoor
open Go.RowKit Go.Maps
set_option linter.unusedVariables false
set_option linter.unusedSimpArgs false
/-- A slice that was made here (or nil), as it is read: n things of so many cells. -/
def RowC (w : World) (v : Value) (size n : Nat) (cs : List Value) : Prop :=
  cs.length = n * size ∧ ((v = .slice none 0 0 ∧ n = 0) ∨ ∃ g cap, v = .slice (some ⟨g, 0, none⟩) n cap ∧ n ≤ cap ∧ cap ≤ maxLen ∧ g < w.heap.size ∧ ∀ (j : Nat) u, cs[j]? = some u → w.cell? ⟨g, j, none⟩ = some u)
theorem RowC.of_own {w : World} {B : Nat} {e : TypeId} {size n : Nat} {v : Value} {cs : List Value} (h : w.ownsRow B e size v n cs) : RowC w v size n cs := by
  refine ⟨h.1, ?_⟩
  rcases h.2 with h1 | ⟨g, cap, cur, rfl, hb, hc, h2, h3, _⟩
  · exact .inl h1
  · exact .inr ⟨g, cap, rfl, h2, h3, lt_of_block hc, fun j u hu => by have := h.cells rfl j u hu; rwa [addr_add0] at this⟩
theorem RowC.keep {a b : World} {size n : Nat} {v : Value} {cs : List Value} (h : RowC a v size n cs) (hb : Below a.heap.size a b) : RowC b v size n cs := by
  refine ⟨h.1, ?_⟩
  rcases h.2 with h1 | ⟨g, cap, rfl, h2, h3, h4, h5⟩
  · exact .inl h1
  · exact .inr ⟨g, cap, rfl, h2, h3, Nat.lt_of_lt_of_le h4 hb.size, fun j u hu => ((acell hb).1 g j h4).trans (h5 j u hu)⟩
theorem RowC.keepO {S : Nat → Prop} {a b : World} {size n : Nat} {v : Value} {cs : List Value} (h : RowC a v size n cs) (o : Only S a b) (hs : ∀ k, v.ownBlock = some k → ¬ S k) : RowC b v size n cs := by
  refine ⟨h.1, ?_⟩
  rcases h.2 with h1 | ⟨g, cap, rfl, h2, h3, h4, h5⟩
  · exact .inl h1
  · exact .inr ⟨g, cap, rfl, h2, h3, Nat.lt_of_lt_of_le h4 o.size, fun j u hu => (o.cell (p := ⟨g, j, none⟩) h4 (hs g rfl)).trans (h5 j u hu)⟩
theorem RowC.shape {w : World} {size n : Nat} {v : Value} {cs : List Value} (h : RowC w v size n cs) : ∃ p n c, v = .slice p n c := by
  rcases h.2 with h1 | ⟨g, cap, h1, _⟩
  · exact ⟨_, _, _, h1.1⟩
  · exact ⟨_, _, _, h1⟩
theorem RowC.nil (w : World) (size : Nat) : RowC w (.slice none 0 0) size 0 [] := ⟨by simp, .inl ⟨rfl, rfl⟩⟩
/-- An item's cells; a mark's. -/
def It.cells : It → List Value
  | .put x => x.cells ++ [.bool false, .string ⟨#[]⟩]
  | .far x nm => x.cells ++ [.bool true, .string nm]
theorem It.cells_len (it : It) : it.cells.length = 8 := by cases it <;> rfl
def markC (e : List UInt8 × Int) : List Value := [.string ⟨e.1.toArray⟩, .int .i64 e.2]
theorem markC_len (e : List UInt8 × Int) : (markC e).length = 2 := rfl
def ItemsAt (w : World) (v : Value) (L : List It) : Prop := RowC w v 8 L.length (L.flatMap It.cells)
def MarksAt (w : World) (v : Value) (M : List (List UInt8 × Int)) : Prop := RowC w v 2 M.length (M.flatMap markC)
theorem look_append (A B : List (List UInt8 × Int)) (nm : List UInt8) (h : look A nm = none) : look (A ++ B) nm = look B nm := by
  unfold look at *
  rw [List.find?_append]
  cases hf : A.find? (fun e => e.1 == nm) with
  | none => simp
  | some e => rw [hf] at h; cases h
theorem take_get {α : Type} (l : List α) (k : Nat) (x : α) (h : l[k]? = some x) : l.take (k + 1) = l.take k ++ [x] ∧ l = l.take k ++ (x :: l.drop (k + 1)) := by
  have hlt : k < l.length := by
    rcases Nat.lt_or_ge k l.length with h1 | h1
    · exact h1
    · rw [List.getElem?_eq_none h1] at h; cases h
  rw [List.getElem?_eq_getElem hlt] at h
  cases h
  exact ⟨List.take_succ_eq_append_getElem hlt, by rw [← List.drop_eq_getElem_cons hlt, List.take_append_drop]⟩
theorem look_hit {M : List (List UInt8 × Int)} {k : Nat} {e : List UInt8 × Int} {nm : List UInt8} (h : look (M.take k) nm = none) (hk : M[k]? = some e) (he : e.1 = nm) : look M nm = some e.2 := by
  rw [(take_get M k e hk).2, look_append _ _ _ h]
  simp [look, he]
theorem look_miss {M : List (List UInt8 × Int)} {k : Nat} {e : List UInt8 × Int} {nm : List UInt8} (h : look (M.take k) nm = none) (hk : M[k]? = some e) (he : e.1 ≠ nm) : look (M.take (k + 1)) nm = none := by
  rw [(take_get M k e hk).1, look_append _ _ _ h]
  simp [look, he]
theorem mk_toList (b : ByteArray) : (⟨b.data.toList.toArray⟩ : ByteArray) = b := by cases b; simp
end Go.Proofs.YtkejnhleajfcjaaGreatDoor
/- Walks of the document's Kind and May (muntinref02). -/
namespace Go.Proofs.YtkejnhleajfcjaaGreatDoor
open Go.RowKit
set_option linter.unusedVariables false
set_option linter.unusedSimpArgs false
set_option maxHeartbeats 1000000 in
theorem rkind_one (op : Int) (h : (1 ≤ op ∧ op ≤ 14) ∨ (19 ≤ op ∧ op ≤ 25)) (w : World) : Calls Tryz.prog 119 #[.int .u8 op] w fun e w' => e = .returned (.int .i64 1) ∧ w = w' := by
  rcases h with ⟨h1, h2⟩ | ⟨h1, h2⟩
  · have g1 : decide (1 ≤ op) = true := by simpa using h1
    have g2 : decide (op ≤ 14) = true := by simpa using h2
    go_enter Tryz.func119, Tryz.ntmps119
    go_wp2
    go_ret
    exact ⟨rfl, rfl⟩
  · have g0 : decide (1 ≤ op) = true := by simp; omega
    have g1 : decide (op ≤ 14) = false := by simp; omega
    have g2 : decide (19 ≤ op) = true := by simpa using h1
    have g3 : decide (op ≤ 25) = true := by simpa using h2
    go_enter Tryz.func119, Tryz.ntmps119
    go_wp2
    go_ret
    exact ⟨rfl, rfl⟩
set_option maxHeartbeats 1000000 in
theorem rkind_far (op : Int) (h : 37 < op) (w : World) : Calls Tryz.prog 119 #[.int .u8 op] w fun e w' => e = .returned (.int .i64 0) ∧ w = w' := by
  have g0 : decide (1 ≤ op) = true := by simp; omega
  have g1 : decide (op ≤ 14) = false := by simp; omega
  have g2 : decide (19 ≤ op) = true := by simp; omega
  have g3 : decide (op ≤ 25) = false := by simp; omega
  have e15 : (op == 15) = false := by simp; omega
  have e16 : (op == 16) = false := by simp; omega
  have e17 : (op == 17) = false := by simp; omega
  have e18 : (op == 18) = false := by simp; omega
  have e26 : (op == 26) = false := by simp; omega
  have e27 : (op == 27) = false := by simp; omega
  have e28 : (op == 28) = false := by simp; omega
  have e29 : (op == 29) = false := by simp; omega
  have e30 : (op == 30) = false := by simp; omega
  have e31 : (op == 31) = false := by simp; omega
  have e32 : (op == 32) = false := by simp; omega
  have e33 : (op == 33) = false := by simp; omega
  have e34 : (op == 34) = false := by simp; omega
  have e35 : (op == 35) = false := by simp; omega
  have e36 : (op == 36) = false := by simp; omega
  have e37 : (op == 37) = false := by simp; omega
  go_enter Tryz.func119, Tryz.ntmps119
  go_wp2
  go_ret
  exact ⟨rfl, rfl⟩
set_option maxHeartbeats 4000000 in
theorem rkind_lit (op : Int) (h : op = 0 ∨ op = 15 ∨ op = 16 ∨ op = 17 ∨ op = 18 ∨ op = 26 ∨ op = 27 ∨ op = 28 ∨ op = 29 ∨ op = 30 ∨ op = 31 ∨ op = 32 ∨ op = 33 ∨ op = 34 ∨ op = 35 ∨ op = 36 ∨ op = 37) (w : World) : Calls Tryz.prog 119 #[.int .u8 op] w fun e w' => e = .returned (.int .i64 (kindS op)) ∧ w = w' := by
  rcases h with rfl | rfl | rfl | rfl | rfl | rfl | rfl | rfl | rfl | rfl | rfl | rfl | rfl | rfl | rfl | rfl | rfl
  all_goals
    go_enter Tryz.func119, Tryz.ntmps119
    go_wp2
    go_ret
    exact ⟨iret (by decide), rfl⟩
theorem rkind_any (op k : Int) (h0 : 0 ≤ op) (hk : kindS op = k) (w : World) : Calls Tryz.prog 119 #[.int .u8 op] w fun e w' => e = .returned (.int .i64 k) ∧ w = w' := by
  subst hk
  by_cases h1 : (1 ≤ op ∧ op ≤ 14) ∨ (19 ≤ op ∧ op ≤ 25)
  · rw [show kindS op = 1 from if_pos h1]; exact rkind_one op h1 w
  · by_cases h2 : 37 < op
    · rw [kind_no (.inr h2)]; exact rkind_far op h2 w
    · exact rkind_lit op (by omega) w
set_option maxHeartbeats 1000000 in
theorem rbetween_any (n low high : Int) (w : World) : Calls Tryz.prog 220 #[.int .i32 n, .int .i32 low, .int .i32 high] w fun e w' => e = .returned (.bool (decide (low ≤ n ∧ n ≤ high))) ∧ w = w' := by
  by_cases h1 : low ≤ n
  · by_cases h2 : n ≤ high
    · have g1 : decide (low ≤ n) = true := by simpa using h1
      have g2 : decide (n ≤ high) = true := by simpa using h2
      have E := ihid (show decide (low ≤ n ∧ n ≤ high) = true from decide_eq_true ⟨h1, h2⟩)
      clear h1 h2
      go_enter Tryz.func220, Tryz.ntmps220
      go_wp2
      go_ret
      exact ⟨iretb E.out.symm, rfl⟩
    · have g1 : decide (low ≤ n) = true := by simpa using h1
      have g2 : decide (n ≤ high) = false := by simpa using h2
      have E := ihid (show decide (low ≤ n ∧ n ≤ high) = false from decide_eq_false (fun h => h2 h.2))
      clear h1 h2
      go_enter Tryz.func220, Tryz.ntmps220
      go_wp2
      go_ret
      exact ⟨iretb E.out.symm, rfl⟩
  · have g1 : decide (low ≤ n) = false := by simpa using h1
    have E := ihid (show decide (low ≤ n ∧ n ≤ high) = false from decide_eq_false (fun h => h1 h.1))
    clear h1
    go_enter Tryz.func220, Tryz.ntmps220
    go_wp2
    go_ret
    exact ⟨iretb E.out.symm, rfl⟩
end Go.Proofs.YtkejnhleajfcjaaGreatDoor
/- The document's May refuses what no operation has. -/
namespace Go.Proofs.YtkejnhleajfcjaaGreatDoor
open Go.RowKit
set_option linter.unusedVariables false
set_option linter.unusedSimpArgs false
theorem may_out2 {x : Ix} (h : (x.is = true ∧ x.rs2 ≠ 0) ∨ (x.is = false ∧ x.imm ≠ 0)) : mayB x = false := by
  unfold mayB mayP
  refine decide_eq_false ?_
  rintro ⟨h1, h2, h3, h4⟩
  by_cases hl : longK (kindS x.op)
  · have := ok_long hl h4
    rcases h with h | h
    · exact h.2 this.2.2.1
    · rw [this.1] at h; simp at h
  · have := ok_short hl h4
    rcases h with h | h
    · exact h.2 (this.1 h.1).1
    · exact h.2 (this.2 h.1)
set_option maxRecDepth 100000 in
set_option maxHeartbeats 2000000 in
theorem rmay_out (x : Ix) (hb : x.bd) (h0 : kindS x.op ≠ 0) (h : ¬ (x.rd ≤ 31 ∧ x.rs1 ≤ 31 ∧ x.rs2 ≤ 31 ∧ (x.is = true → x.rs2 = 0) ∧ (x.is = false → x.imm = 0))) (w : World) :
    Calls Tryz.prog 118 #[x.agg] w fun e w' => e = .returned (.bool (mayB x)) ∧ Below w.heap.size w w' := by
  have E : mayB x = false := by
    by_cases c : 31 < x.rd ∨ 31 < x.rs1 ∨ 31 < x.rs2
    · exact may_out (by omega)
    · refine may_out2 ?_
      cases hi : x.is
      · right; refine ⟨rfl, fun e => h ?_⟩; simp [hi, e]; omega
      · left; refine ⟨rfl, fun e => h ?_⟩; simp [hi, e]; omega
  have E := ihid E
  obtain ⟨op, rd, rs1, rs2, is, imm⟩ := x
  have b0 := hb.1
  simp only at b0 h0 h
  have k0 : (kindS op == 0) = false := by simpa using h0
  have HK := ihid (show kindS op = kindS op from rfl)
  generalize hq : kindS op = q at k0
  have HQ := ihid hq
  clear hq hb h0 HK
  have arm := fun W => rkind_any op q b0.1 HQ.out W
  have ARM := ihid arm
  clear arm
  by_cases g1 : 31 < rd
  · have g1' : decide (31 < rd) = true := by simpa using g1
    clear h
    go_enter Tryz.func118, Tryz.ntmps118
    go_wp2_with fail
    refine (ARM.out _).mono ?_
    rintro e w' ⟨rfl, rfl⟩
    go_wp2_with fail
    go_ret
    exact ⟨iretb E.out.symm, (Below.refl _ _).alloc (Nat.le_refl _) _⟩
  · have g1' : decide (31 < rd) = false := by simpa using g1
    by_cases g2 : 31 < rs1
    · have g2' : decide (31 < rs1) = true := by simpa using g2
      clear h
      go_enter Tryz.func118, Tryz.ntmps118
      go_wp2_with fail
      refine (ARM.out _).mono ?_
      rintro e w' ⟨rfl, rfl⟩
      go_wp2_with fail
      go_ret
      exact ⟨iretb E.out.symm, (Below.refl _ _).alloc (Nat.le_refl _) _⟩
    · have g2' : decide (31 < rs1) = false := by simpa using g2
      by_cases g3 : 31 < rs2
      · have g3' : decide (31 < rs2) = true := by simpa using g3
        clear h
        go_enter Tryz.func118, Tryz.ntmps118
        go_wp2_with fail
        refine (ARM.out _).mono ?_
        rintro e w' ⟨rfl, rfl⟩
        go_wp2_with fail
        go_ret
        exact ⟨iretb E.out.symm, (Below.refl _ _).alloc (Nat.le_refl _) _⟩
      · have g3' : decide (31 < rs2) = false := by simpa using g3
        cases is
        · have hi : imm ≠ 0 := fun e => h (by simp [e]; omega)
          have hi2 : (imm != 0) = true := by simpa using hi
          clear h
          go_enter Tryz.func118, Tryz.ntmps118
          go_wp2_with fail
          refine (ARM.out _).mono ?_
          rintro e w' ⟨rfl, rfl⟩
          go_wp2_with fail
          go_ret
          exact ⟨iretb E.out.symm, (Below.refl _ _).alloc (Nat.le_refl _) _⟩
        · have hi : rs2 ≠ 0 := fun e => h (by simp [e]; omega)
          have hi2 : (rs2 != 0) = true := by simpa using hi
          clear h
          go_enter Tryz.func118, Tryz.ntmps118
          go_wp2_with fail
          refine (ARM.out _).mono ?_
          rintro e w' ⟨rfl, rfl⟩
          go_wp2_with fail
          go_ret
          exact ⟨iretb E.out.symm, (Below.refl _ _).alloc (Nat.le_refl _) _⟩
end Go.Proofs.YtkejnhleajfcjaaGreatDoor
