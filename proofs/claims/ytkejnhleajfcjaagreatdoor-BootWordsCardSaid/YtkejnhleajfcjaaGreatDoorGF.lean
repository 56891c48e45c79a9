/- Several texts in one: InstREnc, AsmRPut, AsmStep, AsmRJump, AsmRMark, AsmRParts, AsmRWords, AsmAct, AsmDoes, AsmSame, AsmHead. -/
import Derived.Test.YtkejnhleajfcjaaGreatDoorGRa
import Derived.Test.YtkejnhleajfcjaaGreatDoorGRb
import Derived.Test.YtkejnhleajfcjaaGreatDoorGRc
import Derived.Test.YtkejnhleajfcjaaGreatDoorGE
import Derived.Test.YtkejnhleajfcjaaGreatDoorGA
import Derived.Laws.AppendOwnNone
import Derived.Deep.RegionHeld3
import Derived.Deep.AppendLies
/- Walks of the document's May and Encode (muntinref02). -/
namespace Go.Proofs.YtkejnhleajfcjaaGreatDoor
open Go.RowKit
set_option linter.unusedVariables false
set_option linter.unusedSimpArgs false
set_option maxRecDepth 100000 in
set_option maxHeartbeats 1000000 in
theorem rmay_zero (x : Ix) (hb : x.bd) (hk : kindS x.op = 0) (w : World) :
    Calls Tryz.prog 118 #[x.agg] w fun e w' => e = .returned (.bool (mayB x)) ∧ Below w.heap.size w w' := by
  have E := ihid (may_out (.inr (.inr (.inr (.inl hk)))))
  obtain ⟨op, rd, rs1, rs2, is, imm⟩ := x
  have b0 := hb.1
  simp only at b0 hk
  have HK := ihid hk
  clear hk hb
  go_enter Tryz.func118, Tryz.ntmps118
  go_wp2_with fail
  refine (rkind_any op 0 b0.1 HK.out _).mono ?_
  rintro e w' ⟨rfl, rfl⟩
  go_wp2_with fail
  go_ret
  exact ⟨iretb E.out.symm, (Below.refl _ _).alloc (Nat.le_refl _) _⟩
theorem rmay_any (x : Ix) (hb : x.bd) (w : World) :
    Calls Tryz.prog 118 #[x.agg] w fun e w' => e = .returned (.bool (mayB x)) ∧ Below w.heap.size w w' := by
  by_cases h0 : kindS x.op = 0
  · exact rmay_zero x hb h0 w
  · by_cases ho : x.rd ≤ 31 ∧ x.rs1 ≤ 31 ∧ x.rs2 ≤ 31 ∧ (x.is = true → x.rs2 = 0) ∧ (x.is = false → x.imm = 0)
    · obtain ⟨h1, h2, h3, h4, h5⟩ := ho
      obtain ⟨op, rd, rs1, rs2, is, imm⟩ := x
      simp only at h1 h2 h3 h4 h5
      rcases kind_cases op with hk | hk | hk | hk | hk | hk | hk | hk | hk | hk | hk | hk | hk
      · exact absurd hk h0
      · cases is
        · exact rmay_1f _ _ _ _ _ hb hk h1 h2 h3 (h5 rfl) w
        · exact rmay_1t _ _ _ _ _ hb hk h1 h2 h3 (h4 rfl) w
      · cases is
        · exact rmay_2f _ _ _ _ _ hb hk h1 h2 h3 (h5 rfl) w
        · exact rmay_2t _ _ _ _ _ hb hk h1 h2 h3 (h4 rfl) w
      · cases is
        · exact rmay_3f _ _ _ _ _ hb hk h1 h2 h3 (h5 rfl) w
        · exact rmay_3t _ _ _ _ _ hb hk h1 h2 h3 (h4 rfl) w
      · cases is
        · exact rmay_4f _ _ _ _ _ hb hk h1 h2 h3 (h5 rfl) w
        · by_cases h6 : rd ≤ 6
          · exact rmay_4ty _ _ _ _ _ hb hk h1 h2 h3 (h4 rfl) h6 w
          · exact rmay_4tn _ _ _ _ _ hb hk h1 h2 h3 (h4 rfl) (by omega) w
      · cases is
        · exact rmay_5f _ _ _ _ _ hb hk h1 h2 h3 (h5 rfl) w
        · exact rmay_5t _ _ _ _ _ hb hk h1 h2 h3 (h4 rfl) w
      · cases is
        · exact rmay_6f _ _ _ _ _ hb hk h1 h2 h3 (h5 rfl) w
        · exact rmay_6t _ _ _ _ _ hb hk h1 h2 h3 (h4 rfl) w
      · cases is
        · exact rmay_7f _ _ _ _ _ hb hk h1 h2 h3 (h5 rfl) w
        · exact rmay_7t _ _ _ _ _ hb hk h1 h2 h3 (h4 rfl) w
      · cases is
        · exact rmay_8f _ _ _ _ _ hb hk h1 h2 h3 (h5 rfl) w
        · exact rmay_8t _ _ _ _ _ hb hk h1 h2 h3 (h4 rfl) w
      · cases is
        · exact rmay_9f _ _ _ _ _ hb hk h1 h2 h3 (h5 rfl) w
        · exact rmay_9t _ _ _ _ _ hb hk h1 h2 h3 (h4 rfl) w
      · cases is
        · exact rmay_10f _ _ _ _ _ hb hk h1 h2 h3 (h5 rfl) w
        · exact rmay_10t _ _ _ _ _ hb hk h1 h2 h3 (h4 rfl) w
      · cases is
        · exact rmay_11f _ _ _ _ _ hb hk h1 h2 h3 (h5 rfl) w
        · exact rmay_11t _ _ _ _ _ hb hk h1 h2 h3 (h4 rfl) w
      · cases is
        · exact rmay_12f _ _ _ _ _ hb hk h1 h2 h3 (h5 rfl) w
        · exact rmay_12t _ _ _ _ _ hb hk h1 h2 h3 (h4 rfl) w
    · exact rmay_out x hb h0 ho w
set_option maxHeartbeats 400000 in
theorem rlow_any (n of : Int) (hof : of = 2097152 ∨ of = 32768) (h0 : -2147483648 ≤ n) (h1 : n < 2147483648) (w : World) : Calls Tryz.prog 120 #[.int .i32 n, .int .i64 of] w fun e w' => e = .returned (.int .u32 (n % of)) ∧ w = w' := by
  have hm : 0 ≤ n.tmod of ∧ n.tmod of = n % of ∨ n.tmod of < 0 ∧ n.tmod of + of = n % of := by
    rw [Int.tmod_eq_emod]
    have hd : of ∣ n ↔ n % of = 0 := Int.dvd_iff_emod_eq_zero
    have : 0 ≤ n % of ∧ n % of < of := by rcases hof with rfl | rfl <;> omega
    have ho : (of.natAbs : Int) = of := by rcases hof with rfl | rfl <;> rfl
    split <;> rename_i h
    · left; omega
    · have hh : ¬ (0 ≤ n ∨ n % of = 0) := fun h2 => h (h2.imp id hd.2)
      right; omega
  have hr : 0 ≤ n % of ∧ n % of < of := by rcases hof with rfl | rfl <;> omega
  have ht : -4294967296 < n.tmod of ∧ n.tmod of < 4294967296 := by rcases hof with rfl | rfl <;> omega
  have ho : 0 < of ∧ of < 4294967296 := by rcases hof with rfl | rfl <;> omega
  have h00 : (of == 0) = false := by rcases hof with rfl | rfl <;> rfl
  have hw : IntKind.i64.wrap (n.tmod of) = n.tmod of := IntWalk.i64_in _ (by omega)
  have hw3 : wrap64 (n.tmod of) = n.tmod of := by rw [IntWalk.wrap64_in _ (by omega)]
  have HM := ihid hm
  have HR := ihid hr
  clear hm hr hof
  by_cases hs : n.tmod of < 0
  · have hs2 : decide (n.tmod of < 0) = true := by simpa using hs
    have HE : n.tmod of + of = n % of := by have := HM.out; omega
    have hb : 0 ≤ n.tmod of + of ∧ n.tmod of + of < 4294967296 := by have := HR.out; omega
    have hw5 : wrap64 (n.tmod of + of) = n.tmod of + of := by rw [IntWalk.wrap64_in _ (by omega)]
    have hw6 : (n.tmod of + of) % 4294967296 = n.tmod of + of := Int.emod_eq_of_lt hb.1 hb.2
    replace HE := ihid HE
    go_enter Tryz.func120, Tryz.ntmps120
    go_wp2
    go_ret
    exact ⟨iret (by first | exact HE.out | (rw [hw5, hw6]; exact HE.out)), rfl⟩
  · have hs2 : decide (n.tmod of < 0) = false := by simpa using hs
    have HE : n.tmod of = n % of := by have := HM.out; omega
    have hb : 0 ≤ n.tmod of ∧ n.tmod of < 4294967296 := by omega
    replace HE := ihid HE
    go_enter Tryz.func120, Tryz.ntmps120
    go_wp2
    go_ret
    exact ⟨iret HE.out, rfl⟩
set_option maxRecDepth 100000 in
set_option maxHeartbeats 1000000 in
theorem renc_any (x : Ix) (hb : x.bd) (w : World) :
    Calls Tryz.prog 45 #[x.agg] w fun e w' => e = .returned (.tuple #[.int .u32 (encS x), .int .i64 (encE x)]) ∧ Below w.heap.size w w' := by
  have hm := rmay_any x hb (w.alloc (.cells #[.int .u8 x.op, .int .u8 x.rd, .int .u8 x.rs1, .int .u8 x.rs2, .bool x.is, .int .i32 x.imm] 108))
  unfold encS encE
  by_cases h : mayP x
  · rw [if_pos h, if_pos h]
    rw [show mayB x = true from decide_eq_true h] at hm
    have HM := ihid hm
    have B := may_bd hb h
    have HP := ihid h
    obtain ⟨op, rd, rs1, rs2, is, imm⟩ := x
    obtain ⟨b0, b1, b2, b3, b4⟩ := hb
    simp only at b0 b1 b2 b3 b4 B
    have hl1 := rlow_any imm 2097152 (.inl rfl) b4.1 b4.2
    have hl2 := rlow_any imm 32768 (.inr rfl) b4.1 b4.2
    have HL1 := ihid hl1
    have HL2 := ihid hl2
    have hk := fun W => rkind_any op (kindS op) b0.1 rfl W
    have HK := ihid hk
    have c1 : 0 ≤ imm % 2097152 ∧ imm % 2097152 < 2097152 := by omega
    have c2 : 0 ≤ imm % 32768 ∧ imm % 32768 < 32768 := by omega
    clear hm h hl1 hl2 hk
    have hnext : ∀ w' : World, Below (w.alloc (.cells #[.int .u8 op, .int .u8 rd, .int .u8 rs1, .int .u8 rs2, .bool is, .int .i32 imm] 108)).heap.size (w.alloc (.cells #[.int .u8 op, .int .u8 rd, .int .u8 rs1, .int .u8 rs2, .bool is, .int .i32 imm] 108)) w' →
        w'.cell? ⟨w.heap.size, 0, none⟩ = some (.int .u8 op) ∧ w'.cell? ⟨w.heap.size, 1, none⟩ = some (.int .u8 rd) ∧ w'.cell? ⟨w.heap.size, 2, none⟩ = some (.int .u8 rs1) ∧ w'.cell? ⟨w.heap.size, 3, none⟩ = some (.int .u8 rs2) ∧ w'.cell? ⟨w.heap.size, 4, none⟩ = some (.bool is) ∧ w'.cell? ⟨w.heap.size, 5, none⟩ = some (.int .i32 imm) ∧ Below w.heap.size w w' := by
      intro w' hbl
      refine ⟨?_, ?_, ?_, ?_, ?_, ?_, ((Below.refl _ _).alloc (Nat.le_refl _) _).trans (hbl.mono (by simp))⟩
      · exact (hbl.cell (p := ⟨w.heap.size, 0, none⟩) (by simp)).trans (by simp)
      · exact (hbl.cell (p := ⟨w.heap.size, 1, none⟩) (by simp)).trans (by simp)
      · exact (hbl.cell (p := ⟨w.heap.size, 2, none⟩) (by simp)).trans (by simp)
      · exact (hbl.cell (p := ⟨w.heap.size, 3, none⟩) (by simp)).trans (by simp)
      · exact (hbl.cell (p := ⟨w.heap.size, 4, none⟩) (by simp)).trans (by simp)
      · exact (hbl.cell (p := ⟨w.heap.size, 5, none⟩) (by simp)).trans (by simp)
    have HN := ihid hnext
    clear hnext
    by_cases hl : longK (kindS op)
    · have hk1 : decide (3 ≤ kindS op) = true := by rcases hl with h | h | h <;> rw [h] <;> rfl
      have hk2 : decide (kindS op ≤ 5) = true := by rcases hl with h | h | h <;> rw [h] <;> rfl
      have E := ihid (show wordS ⟨op, rd, rs1, rs2, is, imm⟩ = op * 67108864 + rd * 2097152 + imm % 2097152 by unfold wordS tailS; rw [if_pos hl])
      clear hl
      generalize kindS op = q at hk1 hk2 HK
      go_enter Tryz.func45, Tryz.ntmps45
      go_wp2_with fail
      refine HM.out.mono ?_
      rintro e w' ⟨rfl, hbl⟩
      obtain ⟨x0, x1, x2, x3, x4, x5, xb⟩ := HN.out w' hbl
      have XB := ihid xb
      clear hbl xb
      go_wp2_with fail
      refine (HK.out _).mono ?_
      rintro e w'' ⟨rfl, rfl⟩
      go_wp2_with fail
      refine (HL1.out _).mono ?_
      rintro e w'' ⟨rfl, rfl⟩
      go_wp2_with fail
      go_ret2
      exact ⟨iret2 E.out.symm rfl, XB.out⟩
    · have hkd : (decide (3 ≤ kindS op) && decide (kindS op ≤ 5)) = false := by
        unfold longK at hl; simp; omega
      have hks : decide (3 ≤ kindS op) = false ∨ decide (3 ≤ kindS op) = true ∧ decide (kindS op ≤ 5) = false := by
        simp at hkd ⊢; omega
      have E1 := ihid (show wordS ⟨op, rd, rs1, rs2, true, imm⟩ = op * 67108864 + rd * 2097152 + rs1 * 65536 + 32768 + imm % 32768 by unfold wordS tailS; rw [if_neg hl]; simp; omega)
      have E2 := ihid (show wordS ⟨op, rd, rs1, rs2, false, imm⟩ = op * 67108864 + rd * 2097152 + rs1 * 65536 + rs2 by unfold wordS tailS; rw [if_neg hl]; simp; omega)
      clear hl hkd
      generalize kindS op = q at hks HK
      rcases hks with hk1 | ⟨hk1, hk2⟩ <;> cases is
      all_goals
        go_enter Tryz.func45, Tryz.ntmps45
        go_wp2_with fail
        refine HM.out.mono ?_
        rintro e w' ⟨rfl, hbl⟩
        obtain ⟨x0, x1, x2, x3, x4, x5, xb⟩ := HN.out w' hbl
        have XB := ihid xb
        clear hbl xb
        go_wp2_with fail
        refine (HK.out _).mono ?_
        rintro e w'' ⟨rfl, rfl⟩
        go_wp2_with (go_at_call 120; refine (HL2.out _).mono ?_; rintro e w'' ⟨rfl, rfl⟩)
        go_ret2
        first | exact ⟨iret2 E1.out.symm rfl, XB.out⟩ | exact ⟨iret2 E2.out.symm rfl, XB.out⟩
  · rw [if_neg h, if_neg h]
    rw [show mayB x = false from decide_eq_false h] at hm
    have HM := ihid hm
    clear hm h hb
    obtain ⟨op, rd, rs1, rs2, is, imm⟩ := x
    go_enter Tryz.func45, Tryz.ntmps45
    go_wp2_with fail
    refine HM.out.mono ?_
    rintro e w' ⟨rfl, hbl⟩
    have HB := ihid hbl
    clear hbl
    go_wp2_with fail
    go_ret2
    exact ⟨rfl, ((Below.refl _ _).alloc (Nat.le_refl _) _).trans (HB.out.mono (by simp))⟩
end Go.Proofs.YtkejnhleajfcjaaGreatDoor
/- The document's list (muntinref07): Put. -/
namespace Go.Proofs.YtkejnhleajfcjaaGreatDoor
open Go.RowKit Go.Maps
set_option linter.unusedVariables false
set_option linter.unusedSimpArgs false
/-- A struct of two slices, in a box. -/
structure Box2 (w : World) (b : Nat) (lv mv : Value) : Prop where
  c0 : w.cell? ⟨b, 0, none⟩ = some lv
  c1 : w.cell? ⟨b, 1, none⟩ = some mv
  f0 : w.frozen? ⟨b, 0, none⟩ = false
  f1 : w.frozen? ⟨b, 1, none⟩ = false
theorem Box2.lt {w : World} {b : Nat} {lv mv : Value} (h : Box2 w b lv mv) : b < w.heap.size := World.block_lt_of_cell? _ _ h.c0
theorem Box2.new (w : World) (lv mv : Value) (t : TypeId) : Box2 (w.alloc (.cells #[lv, mv] t)) w.heap.size lv mv := by
  have h := heap_alloc_new w (.cells #[lv, mv] t)
  exact ⟨by simp only [World.cell?, h]; rfl, by simp only [World.cell?, h]; rfl, by simp only [World.frozen?, h]; rfl, by simp only [World.frozen?, h]; rfl⟩
theorem Box2.keepB {w w' : World} {B b : Nat} {lv mv : Value} (h : Box2 w b lv mv) (hb : Below B w w') (hl : b < B) : Box2 w' b lv mv :=
  ⟨(hb.cell (p := ⟨b, 0, none⟩) hl).trans h.c0, (hb.cell (p := ⟨b, 1, none⟩) hl).trans h.c1, (hb.frozen (p := ⟨b, 0, none⟩) hl).trans h.f0, (hb.frozen (p := ⟨b, 1, none⟩) hl).trans h.f1⟩
theorem Box2.al {w : World} {b : Nat} {lv mv : Value} (h : Box2 w b lv mv) (o : Obj) : Box2 (w.alloc o) b lv mv := h.keepB ((Below.refl _ _).alloc (Nat.le_refl _) _) h.lt
theorem It.cells_one (it : It) : ∀ u ∈ it.cells, u.oneCell' = true := by
  intro u hu
  cases it <;> simp [It.cells, Ix.cells] at hu <;> (rcases hu with rfl | rfl | rfl | rfl | rfl | rfl | rfl | rfl <;> simp [Value.oneCell'])
theorem items_one (L : List It) : ∀ u ∈ L.flatMap It.cells, u.oneCell' = true := by
  intro u hu
  obtain ⟨it, _, h⟩ := List.mem_flatMap.1 hu
  exact it.cells_one u h
theorem Box2.set {w : World} {b : Nat} {x y : Value} (h : Box2 w b x y) (u v : Value) : Box2 ((w.setCell ⟨b, 0, none⟩ u).setCell ⟨b, 1, none⟩ v) b u v := by
  obtain ⟨c0, c1, f0, f1⟩ := h
  refine ⟨?_, ?_, ?_, ?_⟩
  · exact (World.cell?_setCell_other _ _ _ _ (by simp)).trans (World.cell?_setCell_same _ _ _ c0)
  · exact World.cell?_setCell_same _ _ _ (u := y) ((World.cell?_setCell_other _ _ _ _ (by simp)).trans c1)
  · simpa using f0
  · simpa using f1
theorem Box2.only {w w' : World} {S : Nat → Prop} {b : Nat} (h : Only S w w') (hb : S b) (u v : Value) : Only S w ((w'.setCell ⟨b, 0, none⟩ u).setCell ⟨b, 1, none⟩ v) := (h.setCell (p := ⟨b, 0, none⟩) hb u).setCell (p := ⟨b, 1, none⟩) hb v
/-- What Put of the document leaves. -/
def RPutOk (w : World) (lv mv : Value) (L : List It) (l : List Ix) (e : Ending) (w' : World) : Prop :=
  ∃ lv', e = .returned (.tuple #[.agg #[lv', mv], .int .i64 (if ∀ x ∈ l, mayP x then 0 else 2)]) ∧ ItemsAt w' lv' (if ∀ x ∈ l, mayP x then L ++ l.map .put else L) ∧ Below w.heap.size w w' ∧ ∀ k, lv'.ownBlock = some k → lv.ownBlock = some k ∨ w.heap.size ≤ k
theorem RPutOk.yes {w w' : World} {lv mv lv' : Value} {L : List It} {l : List Ix} (h : ∀ x ∈ l, mayP x) (hi : ItemsAt w' lv' (L ++ l.map .put)) (hb : Below w.heap.size w w') (hk : ∀ k, lv'.ownBlock = some k → w.heap.size ≤ k) : RPutOk w lv mv L l (.returned (.tuple #[.agg #[lv', mv], .int .i64 0])) w' :=
  ⟨lv', by rw [if_pos h], by rw [if_pos h]; exact hi, hb, fun k e => .inr (hk k e)⟩
theorem RPutOk.no {w w' : World} {lv mv : Value} {L : List It} {l : List Ix} {x : Ix} (hx : x ∈ l) (h : ¬ mayP x) (hi : ItemsAt w' lv L) (hb : Below w.heap.size w w') : RPutOk w lv mv L l (.returned (.tuple #[.agg #[lv, mv], .int .i64 2])) w' := by
  have hn : ¬ ∀ x ∈ l, mayP x := fun h2 => h (h2 x hx)
  exact ⟨lv, by rw [if_neg hn], by rw [if_neg hn]; exact hi, hb, fun k e => .inl e⟩
end Go.Proofs.YtkejnhleajfcjaaGreatDoor
/- append at a step of a region that draws its order: from nil; onto a slice of one's own that is not nil. No function of the program is walked here. -/
namespace Go.Proofs.YtkejnhleajfcjaaGreatDoor
open Go
set_option linter.unusedVariables false
variable {P : Program} (w : World)
theorem step_append_none {ops : Array Oper} {o : Oper} {a : Act} {K : Act → World → Prop} {Q : Exit → Act → World → Prop} {E : Prop} (hgd : o.guard = none) (s x : Operand) (t : TypeId)
    (ho : o.op = .call { callee := .builtin .append, args := #[s, x], argTypes := #[t, t] })
    (base : Nat) (e : TypeId) (i : TypeInfo) (size : Nat) (ht : P.underlying t = some (.slice e)) (hi : P.info? e = some i)
    (v : Value) (n : Nat) (xs : List Value) (hs : a.eval s = v) (hown : w.ownsRow base e size v n xs) (hx : a.eval x = .slice none 0 0) (h : K (a.put o.dst v) w) :
    if Region.wanted o (yielded ops a.tmps) = true then Oper.wp P o a w K Q else E := by
  have hw : Region.wanted o (yielded ops a.tmps) = true := by simp [Region.wanted, hgd]
  rw [if_pos hw]
  have hrun := run_append_owned_none (P := P) (w := w) base t o.type e i size ht hi v n xs hown
  unfold Oper.wp execOp
  simp only [ho, resolve, invoke, builtin, Sem.run_bind, Sem.run_pure, Result.andThen_ok, List.map_toArray, List.map_cons, List.map_nil, hs, hx, hrun]
  exact h
theorem run_append_some (t ty : TypeId) (base : Nat) (e : TypeId) (i : TypeInfo) (z : Value) (size bytes : Nat) (ht : P.underlying t = some (.slice e)) (hi : P.info? e = some i) (hz : i.zero = some z)
    (hsize : i.size = size) (hby : i.bytes = bytes) (hzs : z.cells.size = size) (hsz : 0 < size)
    (g0 n c0 : Nat) (xs : List Value) (hown : w.ownsRow base e size (.slice (some ⟨g0, 0, none⟩) n c0) n xs)
    (ad : Addr) (m c : Nat) (news : List Value) (hl : news.length = m * size) (hnews : ∀ j u, news[j]? = some u → w.cell? (ad.add j) = some u) (h1 : ∀ u ∈ news, u.oneCell' = true)
    (h63 : n + m ≤ maxLen) (hbytes : (n + m) * bytes ≤ 140737488355328) (hbase : base ≤ w.heap.size) :
    ∃ g cap w', (Builtin.append_ #[t, t] ty #[.slice (some ⟨g0, 0, none⟩) n c0, .slice (some ad) m c]).run P w = .ok (.slice (some ⟨g, 0, none⟩) (n + m) cap) w' ∧
      w'.ownsRow base e size (.slice (some ⟨g, 0, none⟩) (n + m) cap) (n + m) (xs ++ news) ∧ w.grownBy w' (some g0) := by
  obtain ⟨v', w', hr, h2, h3, h4⟩ := run_append_own (P := P) w base t ty e i z size bytes ht hi hz hsize hby hzs hsz _ n xs hown ad m c news hl hnews h1 h63 hbytes hbase
  rcases h2.2 with ⟨rfl, _⟩ | ⟨g, cap, cur, rfl, _⟩
  · exact absurd (h4.1 rfl).1 (by simp)
  · exact ⟨g, cap, w', hr, h2, h3⟩
theorem step_append_some {ops : Array Oper} {o : Oper} {a : Act} {K : Act → World → Prop} {Q : Exit → Act → World → Prop} {E : Prop} (hgd : o.guard = none) (s x : Operand) (t : TypeId)
    (ho : o.op = .call { callee := .builtin .append, args := #[s, x], argTypes := #[t, t] })
    (base : Nat) (e : TypeId) (i : TypeInfo) (z : Value) (size bytes : Nat) (ht : P.underlying t = some (.slice e)) (hi : P.info? e = some i) (hz : i.zero = some z)
    (hsize : i.size = size) (hby : i.bytes = bytes) (hzs : z.cells.size = size) (hsz : 0 < size)
    (g0 n c0 : Nat) (xs : List Value) (hs : a.eval s = .slice (some ⟨g0, 0, none⟩) n c0) (hown : w.ownsRow base e size (.slice (some ⟨g0, 0, none⟩) n c0) n xs)
    (ad : Addr) (m c : Nat) (news : List Value) (hx : a.eval x = .slice (some ad) m c) (hl : news.length = m * size) (hnews : ∀ j u, news[j]? = some u → w.cell? (ad.add j) = some u) (h1 : ∀ u ∈ news, u.oneCell' = true)
    (h63 : n + m ≤ maxLen) (hbytes : (n + m) * bytes ≤ 140737488355328) (hbase : base ≤ w.heap.size)
    (h : ∀ g cap w', w'.ownsRow base e size (.slice (some ⟨g, 0, none⟩) (n + m) cap) (n + m) (xs ++ news) → w.grownBy w' (some g0) → K (a.put o.dst (.slice (some ⟨g, 0, none⟩) (n + m) cap)) w') :
    if Region.wanted o (yielded ops a.tmps) = true then Oper.wp P o a w K Q else E := by
  have hw : Region.wanted o (yielded ops a.tmps) = true := by simp [Region.wanted, hgd]
  rw [if_pos hw]
  obtain ⟨g, cap, w', hrun, h2, h3⟩ := run_append_some (P := P) w t o.type base e i z size bytes ht hi hz hsize hby hzs hsz g0 n c0 xs hown ad m c news hl hnews h1 h63 hbytes hbase
  unfold Oper.wp execOp
  simp only [ho, resolve, invoke, builtin, Sem.run_bind, Sem.run_pure, Result.andThen_ok, List.map_toArray, List.map_cons, List.map_nil, hs, hx, hrun]
  exact h g cap w' h2 h3
end Go.Proofs.YtkejnhleajfcjaaGreatDoor
/- The document's list (muntinref07): Jump. -/
namespace Go.Proofs.YtkejnhleajfcjaaGreatDoor
open Go.RowKit Go.Maps
set_option linter.unusedVariables false
set_option linter.unusedSimpArgs false
/-- What Jump of the document leaves. -/
def RJumpOk (w : World) (lv mv : Value) (L : List It) (op c : Int) (nm : ByteArray) (e : Ending) (w' : World) : Prop :=
  ∃ lv', e = .returned (.tuple #[.agg #[lv', mv], .int .i64 (if c ≤ 6 then 0 else 2)]) ∧ ItemsAt w' lv' (if c ≤ 6 then L ++ [.far ⟨op, c, 0, 0, true, 0⟩ nm] else L) ∧ Below w.heap.size w w' ∧ ∀ k, lv'.ownBlock = some k → lv.ownBlock = some k ∨ w.heap.size ≤ k
theorem RJumpOk.yes {w w' : World} {lv mv lv' : Value} {L : List It} {op c : Int} {nm : ByteArray} (h : c ≤ 6) (hi : ItemsAt w' lv' (L ++ [.far ⟨op, c, 0, 0, true, 0⟩ nm])) (hb : Below w.heap.size w w') (hk : ∀ k, lv'.ownBlock = some k → w.heap.size ≤ k) : RJumpOk w lv mv L op c nm (.returned (.tuple #[.agg #[lv', mv], .int .i64 0])) w' :=
  ⟨lv', by rw [if_pos h], by rw [if_pos h]; exact hi, hb, fun k e => .inr (hk k e)⟩
theorem row_fin {w2 : World} {B b size n : Nat} {e : TypeId} {v : Value} {cs : List Value} (ho : w2.ownsRow B e size v n cs) (hb : b < B) (x y : Value) : RowC ((w2.setCell ⟨b, 0, none⟩ x).setCell ⟨b, 1, none⟩ y) v size n cs :=
  (RowC.of_own ho).keepO (Box2.only (S := fun k => k = b) (Only.refl _ w2) rfl x y) (fun k hk e => by have := (ho.lt k hk).1; omega)
theorem items_fin {w2 : World} {B b n : Nat} {e : TypeId} {v : Value} {cs : List Value} {L : List It} (ho : w2.ownsRow B e 8 v n cs) (hn : n = L.length) (hcs : cs = L.flatMap It.cells) (hb : b < B) (x y : Value) : ItemsAt ((w2.setCell ⟨b, 0, none⟩ x).setCell ⟨b, 1, none⟩ y) v L := by
  subst hn; subst hcs; exact row_fin ho hb x y
theorem RJumpOk.no {w w' : World} {mv lv : Value} {L : List It} {op c : Int} {nm : ByteArray} (h : ¬ c ≤ 6) (hi : ItemsAt w' lv L) (hb : Below w.heap.size w w') : RJumpOk w lv mv L op c nm (.returned (.tuple #[.agg #[lv, mv], .int .i64 2])) w' :=
  ⟨lv, by rw [if_neg h], by rw [if_neg h]; exact hi, hb, fun k e => .inl e⟩
theorem cells6 (w : World) (x : Ix) : InsAt (w.alloc (.cells #[.int .u8 x.op, .int .u8 x.rd, .int .u8 x.rs1, .int .u8 x.rs2, .bool x.is, .int .i32 x.imm] 108)) w.heap.size 0 x ∨ ¬ x.bd := by
  by_cases hb : x.bd
  · refine .inl (InsAt.of_cells hb fun j u hu => ?_)
    rw [Nat.zero_add]
    simp only [World.cell?, heap_alloc_new w _]
    simpa [Ix.cells] using hu
  · exact .inr hb
end Go.Proofs.YtkejnhleajfcjaaGreatDoor
/- The document's list (muntinref07): Mark; Jump whatever it is given. -/
namespace Go.Proofs.YtkejnhleajfcjaaGreatDoor
open Go.RowKit Go.Maps
set_option linter.unusedVariables false
set_option linter.unusedSimpArgs false
theorem marks_one (M : List (List UInt8 × Int)) : ∀ u ∈ M.flatMap markC, u.oneCell' = true := by
  intro u hu
  obtain ⟨e, _, h⟩ := List.mem_flatMap.1 hu
  simp [markC] at h
  rcases h with rfl | rfl <;> simp [Value.oneCell']
/-- The marks behind a mark; the answer. -/
def markM (M : List (List UInt8 × Int)) (nm : ByteArray) (n : Int) : List (List UInt8 × Int) := if (look M nm.data.toList).isSome = true then M else M ++ [(nm.data.toList, n)]
def markE (M : List (List UInt8 × Int)) (nm : ByteArray) : Int := if (look M nm.data.toList).isSome = true then 9 else 0
/-- What Mark of the document leaves. -/
def RMarkOk (w : World) (lv mv : Value) (M : List (List UInt8 × Int)) (nm : ByteArray) (n : Int) (e : Ending) (w' : World) : Prop :=
  ∃ mv', e = .returned (.tuple #[.agg #[lv, mv'], .int .i64 (markE M nm)]) ∧ MarksAt w' mv' (markM M nm n) ∧ Below w.heap.size w w' ∧ ∀ k, mv'.ownBlock = some k → mv.ownBlock = some k ∨ w.heap.size ≤ k
theorem RMarkOk.no {w w' : World} {lv mv : Value} {M : List (List UInt8 × Int)} {nm : ByteArray} {n : Int} (h : (look M nm.data.toList).isSome = true) (hi : MarksAt w' mv M) (hb : Below w.heap.size w w') : RMarkOk w lv mv M nm n (.returned (.tuple #[.agg #[lv, mv], .int .i64 9])) w' :=
  ⟨mv, by unfold markE; rw [if_pos h], by unfold markM; rw [if_pos h]; exact hi, hb, fun k e => .inl e⟩
theorem RMarkOk.yes {w w' : World} {lv mv mv' : Value} {M : List (List UInt8 × Int)} {nm : ByteArray} {n : Int} (h : ¬ (look M nm.data.toList).isSome = true) (hi : MarksAt w' mv' (M ++ [(nm.data.toList, n)])) (hb : Below w.heap.size w w') (hk : ∀ k, mv'.ownBlock = some k → w.heap.size ≤ k) : RMarkOk w lv mv M nm n (.returned (.tuple #[.agg #[lv, mv'], .int .i64 0])) w' :=
  ⟨mv', by unfold markE; rw [if_neg h], by unfold markM; rw [if_neg h]; exact hi, hb, fun k e => .inr (hk k e)⟩
theorem marks_fin {w2 : World} {B b n : Nat} {e : TypeId} {v : Value} {cs : List Value} {M : List (List UInt8 × Int)} (ho : w2.ownsRow B e 2 v n cs) (hn : n = M.length) (hcs : cs = M.flatMap markC) (hb : b < B) (x y : Value) : MarksAt ((w2.setCell ⟨b, 0, none⟩ x).setCell ⟨b, 1, none⟩ y) v M := by
  subst hn; subst hcs; exact row_fin ho hb x y
end Go.Proofs.YtkejnhleajfcjaaGreatDoor
/- The document's list (muntinref07): Parts. -/
namespace Go.Proofs.YtkejnhleajfcjaaGreatDoor
open Go.RowKit Go.Maps
set_option linter.unusedVariables false
set_option linter.unusedSimpArgs false
/-- What Parts of the document leaves. -/
def RPartsOk (w : World) (rd n : Int) (e : Ending) (w' : World) : Prop := ∃ v, e = .returned v ∧ InsIn w' v (partsS rd n) ∧ Below w.heap.size w w'
end Go.Proofs.YtkejnhleajfcjaaGreatDoor
/- The document's list (muntinref07): Words. -/
namespace Go.Proofs.YtkejnhleajfcjaaGreatDoor
open Go.RowKit Go.Maps
set_option linter.unusedVariables false
set_option linter.unusedSimpArgs false
/-- An instruction that goes to a name. -/
def farX (x : Ix) : Prop := (∃ c, 0 ≤ c ∧ c ≤ 6 ∧ x = ⟨17, c, 0, 0, true, 0⟩) ∨ x = ⟨18, 0, 0, 0, true, 0⟩
def FarL (L : List It) : Prop := ∀ x nm, It.far x nm ∈ L → farX x
theorem farX.may {x : Ix} (h : farX x) (d : Int) : mayP { x with imm := d } ↔ -1048576 ≤ d ∧ d < 1048576 := by
  rcases h with ⟨c, h0, h1, rfl⟩ | rfl
  · have hk : kindS 17 = 4 := by decide
    unfold mayP okS
    simp only [hk]
    constructor
    · intro h; have := h.2.2.2; simp at this; omega
    · intro h; refine ⟨by omega, by omega, by omega, ?_⟩; simp; omega
  · have hk : kindS 18 = 5 := by decide
    unfold mayP okS
    simp only [hk]
    constructor
    · intro h; have := h.2.2.2; simp at this; omega
    · intro h; refine ⟨by omega, by omega, by omega, ?_⟩; simp; omega
theorem farX.out {x : Ix} (h : farX x) {d : Int} (hd : ¬ (-1048576 ≤ d ∧ d < 1048576)) : farE x d = 50 := by
  unfold farE; rw [if_neg (fun h2 => hd ((h.may d).1 h2.1))]
theorem farX.in' {x : Ix} (h : farX x) {d : Int} (hd : -1048576 ≤ d ∧ d < 1048576) : farE x d = 0 ∧ farW x d = encS { x with imm := d } := by
  have hm := (h.may d).2 hd
  unfold farE farW
  rw [if_pos ⟨hm, by omega, by omega⟩, if_pos ⟨hm, by omega, by omega⟩]
  exact ⟨rfl, rfl⟩
theorem farX.bd {x : Ix} (h : farX x) {d : Int} (hd : -1048576 ≤ d ∧ d < 1048576) : ({ x with imm := d } : Ix).bd := by
  rcases h with ⟨c, h0, h1, rfl⟩ | rfl <;> (unfold Ix.bd; simp only; omega)
/-- An instruction in a box, that may be written. -/
structure Box6 (w : World) (b : Nat) (x : Ix) : Prop where
  c0 : w.cell? ⟨b, 0, none⟩ = some (.int .u8 x.op)
  c1 : w.cell? ⟨b, 1, none⟩ = some (.int .u8 x.rd)
  c2 : w.cell? ⟨b, 2, none⟩ = some (.int .u8 x.rs1)
  c3 : w.cell? ⟨b, 3, none⟩ = some (.int .u8 x.rs2)
  c4 : w.cell? ⟨b, 4, none⟩ = some (.bool x.is)
  c5 : w.cell? ⟨b, 5, none⟩ = some (.int .i32 x.imm)
  f5 : w.frozen? ⟨b, 5, none⟩ = false
theorem box6 (w : World) (x : Ix) : Box6 (w.alloc (.cells #[.int .u8 x.op, .int .u8 x.rd, .int .u8 x.rs1, .int .u8 x.rs2, .bool x.is, .int .i32 x.imm] 108)) w.heap.size x := by
  have h := heap_alloc_new w (.cells #[.int .u8 x.op, .int .u8 x.rd, .int .u8 x.rs1, .int .u8 x.rs2, .bool x.is, .int .i32 x.imm] 108)
  exact ⟨by simp only [World.cell?, h]; rfl, by simp only [World.cell?, h]; rfl, by simp only [World.cell?, h]; rfl, by simp only [World.cell?, h]; rfl, by simp only [World.cell?, h]; rfl, by simp only [World.cell?, h]; rfl, by simp only [World.frozen?, h]; rfl⟩
theorem Box6.keep {w w' : World} {B b : Nat} {x : Ix} (h : Box6 w b x) (hb : Below B w w') (hl : b < B) : Box6 w' b x :=
  ⟨(hb.cell (p := ⟨b, 0, none⟩) hl).trans h.c0, (hb.cell (p := ⟨b, 1, none⟩) hl).trans h.c1, (hb.cell (p := ⟨b, 2, none⟩) hl).trans h.c2, (hb.cell (p := ⟨b, 3, none⟩) hl).trans h.c3, (hb.cell (p := ⟨b, 4, none⟩) hl).trans h.c4, (hb.cell (p := ⟨b, 5, none⟩) hl).trans h.c5, (hb.frozen (p := ⟨b, 5, none⟩) hl).trans h.f5⟩
theorem ownsRow_far {W1 w5 w4 : World} {B b : Nat} {e : TypeId} {size n : Nat} {v u : Value} {xs : List Value} {i : Nat} (h : W1.ownsRow B e size v n xs) (h5 : Below W1.heap.size W1 w5) (h4 : Below (w5.setCell ⟨b, i, none⟩ u).heap.size (w5.setCell ⟨b, i, none⟩ u) w4) (hne : ∀ k, v.ownBlock = some k → k ≠ b) : w4.ownsRow B e size v n xs := by
  refine ⟨h.1, ?_⟩
  rcases h.2 with h0 | ⟨g, cap, cur, e1, e2, e3, e4⟩
  · exact .inl h0
  · have hg := lt_of_block e3
    have hs : (w5.setCell ⟨b, i, none⟩ u).heap.size = w5.heap.size := by simp [World.setCell]
    refine .inr ⟨g, cap, cur, e1, e2, ?_, e4⟩
    rw [h4.block g (by rw [hs]; exact Nat.lt_of_lt_of_le hg h5.size), Below.heap_setCell _ _ _ _ (hne g (by rw [e1]; rfl)), h5.block g hg]
    exact e3
/-- Items that were put may be. -/
def PutL (L : List It) : Prop := ∀ x, It.put x ∈ L → x.bd
end Go.Proofs.YtkejnhleajfcjaaGreatDoor
/- Acts on a list: what they leave; the program's acts as one step each. -/
namespace Go.Proofs.YtkejnhleajfcjaaGreatDoor
open Go.RowKit Go.Maps
set_option linter.unusedVariables false
set_option linter.unusedSimpArgs false
/-- A list that may have gone on. -/
def StepTo (w : World) (p : Nat) (sv : Value) (m : Nat) (K : Nat → Prop) (L' : List It) (M' : List (List UInt8 × Int)) (w' : World) : Prop :=
  ∃ v' K', AsmAt w' p v' m K' L' M' ∧ Only (Own p sv m) w w' ∧ (∀ k, k < w.heap.size → Own p v' m k → Own p sv m k) ∧ (∀ k, k < w.heap.size → K' k → K k)
theorem StepTo.same {w w' : World} {p m : Nat} {sv : Value} {K : Nat → Prop} {L : List It} {M : List (List UInt8 × Int)} (h : AsmAt w p sv m K L M) (hb : Below w.heap.size w w') : StepTo w p sv m K L M w' :=
  ⟨sv, K, h.keep (Only.of_below (S := fun _ => False) hb) (fun _ _ h => h) (fun _ _ h => h), Only.of_below hb, fun _ _ h => h, fun _ _ h => h⟩
theorem StepTo.of_below {w w1 w' : World} {p m : Nat} {sv : Value} {K : Nat → Prop} {L : List It} {M : List (List UInt8 × Int)} (hb : Below w.heap.size w w1) (h : StepTo w1 p sv m K L M w') : StepTo w p sv m K L M w' := by
  obtain ⟨v', K', h1, h2, h3, h4⟩ := h
  exact ⟨v', K', h1, (Only.of_below hb).fresh h2 (fun _ _ h => h), fun k hk => h3 k (Nat.lt_of_lt_of_le hk hb.size), fun k hk => h4 k (Nat.lt_of_lt_of_le hk hb.size)⟩
def putE (l : List Ix) : Int := if ∀ x ∈ l, mayP x then 0 else 2
def putL (L : List It) (l : List Ix) : List It := if ∀ x ∈ l, mayP x then L ++ l.map .put else L
def jumpE (c : Int) : Int := if c ≤ 6 then 0 else 2
def jumpL (L : List It) (op c : Int) (nm : ByteArray) : List It := if c ≤ 6 then L ++ [.far ⟨op, c, 0, 0, true, 0⟩ nm] else L
theorem put_step {w w' : World} {p m : Nat} {sv : Value} {K : Nat → Prop} {L : List It} {M : List (List UInt8 × Int)} {l : List Ix} {e : Ending} (h : AsmAt w p sv m K L M) (hp : PutOk w p sv m K L M l e w') : e = .returned (.int .i64 (putE l)) ∧ StepTo w p sv m K (putL L l) M w' := by
  unfold PutOk at hp
  unfold putE putL
  by_cases hm : ∀ x ∈ l, mayP x
  · rw [if_pos hm] at hp ⊢
    rw [if_pos hm]
    exact hp
  · rw [if_neg hm] at hp ⊢
    rw [if_neg hm]
    exact ⟨hp.1, StepTo.same h hp.2⟩
theorem far_step {w w' : World} {p m : Nat} {sv : Value} {K : Nat → Prop} {L : List It} {M : List (List UInt8 × Int)} {op c : Int} {nm : ByteArray} {e : Ending} (h : AsmAt w p sv m K L M) (hm : mayP ⟨op, c, 0, 0, true, 0⟩ ↔ c ≤ 6) (hp : FarOk w p sv m K L M ⟨op, c, 0, 0, true, 0⟩ nm e w') :
    e = .returned (.int .i64 (jumpE c)) ∧ StepTo w p sv m K (jumpL L op c nm) M w' := by
  unfold FarOk at hp
  unfold jumpE jumpL
  by_cases hc : c ≤ 6
  · rw [if_pos (hm.2 hc)] at hp
    rw [if_pos hc, if_pos hc]
    exact hp
  · rw [if_neg (fun h => hc (hm.1 h))] at hp
    rw [if_neg hc, if_neg hc]
    exact ⟨hp.1, StepTo.same h hp.2⟩
theorem amark_step (w : World) (p m : Nat) (sv : Value) (K : Nat → Prop) (L : List It) (M : List (List UInt8 × Int)) (h : AsmAt w p sv m K L M) (nm : ByteArray) (hs : nm.size ≤ maxLen) (hM : M.length < maxLen) (hL : L.length < 4294967296) :
    Calls Tryz.prog 215 #[.pointer (some ⟨p, 0, none⟩), .string nm] w fun e w' => e = .returned (.int .i64 (markE M nm)) ∧ StepTo w p sv m K L (markM M nm L.length) w' := by
  unfold markE markM
  cases hl : look M nm.data.toList with
  | none =>
    refine (amark_new w p m sv K L M h nm hs hM (by omega) hl).mono ?_
    rintro e w' ⟨rfl, h1, h2⟩
    exact ⟨rfl, sv, K, h1, h2.mono (fun k _ hk => .inr (.inr hk)), fun _ _ h => h, fun _ _ h => h⟩
  | some n =>
    refine (amark_twice w p m sv K L M h nm hs n hl).mono ?_
    rintro e w' ⟨rfl, rfl⟩
    exact ⟨rfl, StepTo.same h (Below.refl _ _)⟩
/-- An act. -/
structure Actx where
  what : Int
  l : List Ix
  nm : ByteArray
  cond : Int
  wd : Int
def Actx.L (x : Actx) (L : List It) : List It :=
  if x.what % 5 = 0 then putL L x.l else if x.what % 5 = 1 then L else if x.what % 5 = 2 then jumpL L 17 x.cond x.nm else if x.what % 5 = 3 then jumpL L 18 0 x.nm else putL L (partsS x.cond x.wd)
def Actx.M (x : Actx) (L : List It) (M : List (List UInt8 × Int)) : List (List UInt8 × Int) := if x.what % 5 = 1 then markM M x.nm L.length else M
def Actx.bd (x : Actx) : Prop := (0 ≤ x.what ∧ x.what < 256) ∧ (0 ≤ x.cond ∧ x.cond < 256) ∧ (0 ≤ x.wd ∧ x.wd < 4294967296) ∧ x.nm.size ≤ maxLen ∧ x.l.length ≤ 1000
/-- The two lists have the same names. -/
def SameNames (M N : List (List UInt8 × Int)) : Prop := ∀ nm, (look M nm).isSome = (look N nm).isSome
theorem SameNames.mark {M N : List (List UInt8 × Int)} (h : SameNames M N) (nm : ByteArray) (a b : Int) : markE M nm = markE N nm ∧ SameNames (markM M nm a) (markM N nm b) := by
  unfold markE markM
  rw [h nm.data.toList]
  refine ⟨rfl, ?_⟩
  cases hN : (look N nm.data.toList).isSome with
  | true => simpa using h
  | false =>
    simp only [Bool.false_eq_true, if_false]
    intro n2
    rw [look_snoc, look_snoc]
    have := h n2
    cases h1 : look M n2 <;> cases h2 : look N n2 <;> rw [h1, h2] at this <;> simp at this ⊢
    split <;> rfl
theorem InsIn.keepO {S : Nat → Prop} {w w' : World} {v : Value} {l : List Ix} (h : InsIn w v l) (o : Only S w w') (hs : 0 < l.length → ∀ k, v.ownBlock = some k → ¬ S k) : InsIn w' v l := by
  obtain ⟨h1, p, c, b, o', rfl, h3, h4⟩ := h
  refine ⟨h1, p, c, b, o', rfl, h3, fun k x hx => (h4 k x hx).keep o ?_⟩
  have hlt : k < l.length := by
    rcases Nat.lt_or_ge k l.length with h | h
    · exact h
    · rw [List.getElem?_eq_none h] at hx; cases hx
  exact hs (by omega) b (by rw [h3 (by omega)]; rfl)
theorem InsIn.lt {w : World} {v : Value} {l : List Ix} (h : InsIn w v l) : 0 < l.length → ∀ k, v.ownBlock = some k → k < w.heap.size := by
  obtain ⟨h1, p, c, b, o', rfl, h3, h4⟩ := h
  intro h0 k hk
  rw [h3 h0] at hk
  cases hk
  exact (h4 0 l[0] (List.getElem?_eq_getElem h0)).lt
/-- What does leaves: on the program's list, and on the document's. -/
def DoesOk (w : World) (p : Nat) (sv : Value) (m : Nat) (K : Nat → Prop) (x : Actx) (L : List It) (M : List (List UInt8 × Int)) (lv mv : Value) (Lq : List It) (Mq : List (List UInt8 × Int)) (e : Ending) (w' : World) : Prop :=
  ∃ lv' mv' b v' K', e = .returned (.tuple #[.agg #[lv', mv'], .bool b]) ∧ (SameNames M Mq → b = true) ∧ AsmAt w' p v' m K' (x.L L) (x.M L M) ∧ Only (Own p sv m) w w' ∧ (∀ k, k < w.heap.size → Own p v' m k → Own p sv m k) ∧ (∀ k, k < w.heap.size → K' k → K k) ∧
    ItemsAt w' lv' (x.L Lq) ∧ MarksAt w' mv' (x.M Lq Mq) ∧ (∀ k, Own p v' m k → lv'.ownBlock ≠ some k ∧ mv'.ownBlock ≠ some k) ∧
    (∀ k, lv'.ownBlock = some k → lv.ownBlock = some k ∨ w.heap.size ≤ k) ∧ (∀ k, mv'.ownBlock = some k → mv.ownBlock = some k ∨ w.heap.size ≤ k)
end Go.Proofs.YtkejnhleajfcjaaGreatDoor
/- The walk of muntinlaw07.does: an act on a list, and on the document's. -/
namespace Go.Proofs.YtkejnhleajfcjaaGreatDoor
open Go.RowKit Go.Maps
set_option linter.unusedVariables false
set_option linter.unusedSimpArgs false
/-- An act in a box. -/
structure ActBox (w : World) (b : Nat) (what : Int) (l : Value) (nm : ByteArray) (cond wd : Int) : Prop where
  c0 : w.cell? ⟨b, 0, none⟩ = some (.int .u8 what)
  c1 : w.cell? ⟨b, 1, none⟩ = some l
  c2 : w.cell? ⟨b, 2, none⟩ = some (.string nm)
  c3 : w.cell? ⟨b, 3, none⟩ = some (.int .u8 cond)
  c4 : w.cell? ⟨b, 4, none⟩ = some (.int .u32 wd)
theorem ActBox.new (w : World) (what : Int) (l : Value) (nm : ByteArray) (cond wd : Int) (t : TypeId) : ActBox (w.alloc (.cells #[.int .u8 what, l, .string nm, .int .u8 cond, .int .u32 wd] t)) w.heap.size what l nm cond wd := by
  have h := heap_alloc_new w (.cells #[.int .u8 what, l, .string nm, .int .u8 cond, .int .u32 wd] t)
  exact ⟨by simp only [World.cell?, h]; rfl, by simp only [World.cell?, h]; rfl, by simp only [World.cell?, h]; rfl, by simp only [World.cell?, h]; rfl, by simp only [World.cell?, h]; rfl⟩
theorem ActBox.keep {S : Nat → Prop} {w w' : World} {b : Nat} {what : Int} {l : Value} {nm : ByteArray} {cond wd : Int} (h : ActBox w b what l nm cond wd) (o : Only S w w') (hs : ¬ S b) : ActBox w' b what l nm cond wd := by
  have hl : b < w.heap.size := World.block_lt_of_cell? _ _ h.c0
  exact ⟨(o.cell (p := ⟨b, 0, none⟩) hl hs).trans h.c0, (o.cell (p := ⟨b, 1, none⟩) hl hs).trans h.c1, (o.cell (p := ⟨b, 2, none⟩) hl hs).trans h.c2, (o.cell (p := ⟨b, 3, none⟩) hl hs).trans h.c3, (o.cell (p := ⟨b, 4, none⟩) hl hs).trans h.c4⟩
theorem Only.frozen {S : Nat → Prop} {a b : World} (h : Only S a b) {p : Addr} (hp : p.block < a.heap.size) (hs : ¬ S p.block) : b.frozen? p = a.frozen? p := World.frozen?_of_block (h.block p.block hp hs)
theorem Box2.keepO {S : Nat → Prop} {w w' : World} {b : Nat} {lv mv : Value} (h : Box2 w b lv mv) (o : Only S w w') (hs : ¬ S b) : Box2 w' b lv mv :=
  ⟨(o.cell (p := ⟨b, 0, none⟩) h.lt hs).trans h.c0, (o.cell (p := ⟨b, 1, none⟩) h.lt hs).trans h.c1, (o.frozen (p := ⟨b, 0, none⟩) h.lt hs).trans h.f0, (o.frozen (p := ⟨b, 1, none⟩) h.lt hs).trans h.f1⟩
theorem Box2.size {w : World} {b : Nat} (u v : Value) : ((w.setCell ⟨b, 0, none⟩ u).setCell ⟨b, 1, none⟩ v).heap.size = w.heap.size := by simp [World.setCell]
/-- The boxes of does. -/
structure Boxes (w W : World) (lv mv : Value) (what : Int) (l : Value) (nm : ByteArray) (cond wd : Int) : Prop where
  q : Box2 W w.heap.size lv mv
  x : ActBox W (w.heap.size + 1) what l nm cond wd
  r : Box2 W (w.heap.size + 2) (.slice none 0 0) (.slice none 0 0)
  p : Box2 W (w.heap.size + 3) (.slice none 0 0) (.slice none 0 0)
  size : w.heap.size + 4 ≤ W.heap.size
theorem Boxes.keep {S : Nat → Prop} {w W W' : World} {lv mv : Value} {what : Int} {l : Value} {nm : ByteArray} {cond wd : Int} (h : Boxes w W lv mv what l nm cond wd) (o : Only S W W') (hs : ∀ k, S k → k < w.heap.size ∨ w.heap.size + 4 ≤ k) : Boxes w W' lv mv what l nm cond wd :=
  ⟨h.q.keepO o (fun hk => by have := hs _ hk; omega), h.x.keep o (fun hk => by have := hs _ hk; omega), h.r.keepO o (fun hk => by have := hs _ hk; omega), h.p.keepO o (fun hk => by have := hs _ hk; omega), Nat.le_trans h.size o.size⟩
theorem Boxes.new (w : World) (lv mv : Value) (what : Int) (l : Value) (nm : ByteArray) (cond wd : Int) (t t2 : TypeId) :
    Boxes w ((((w.alloc (.cells #[lv, mv] t)).alloc (.cells #[.int .u8 what, l, .string nm, .int .u8 cond, .int .u32 wd] t2)).alloc (.cells #[.slice none 0 0, .slice none 0 0] t)).alloc (.cells #[.slice none 0 0, .slice none 0 0] t)) lv mv what l nm cond wd := by
  have al : ∀ (W : World) (o : Obj), Only (fun _ => False) W (W.alloc o) := fun W o => (Only.refl _ W).alloc o
  have s1 : (w.alloc (.cells #[lv, mv] t)).heap.size = w.heap.size + 1 := by simp
  have s2 : ((w.alloc (.cells #[lv, mv] t)).alloc (.cells #[.int .u8 what, l, .string nm, .int .u8 cond, .int .u32 wd] t2)).heap.size = w.heap.size + 2 := by simp
  have s3 : (((w.alloc (.cells #[lv, mv] t)).alloc (.cells #[.int .u8 what, l, .string nm, .int .u8 cond, .int .u32 wd] t2)).alloc (.cells #[.slice none 0 0, .slice none 0 0] t)).heap.size = w.heap.size + 3 := by simp
  have h1 := ActBox.new (w.alloc (.cells #[lv, mv] t)) what l nm cond wd t2
  have h2 := Box2.new ((w.alloc (.cells #[lv, mv] t)).alloc (.cells #[.int .u8 what, l, .string nm, .int .u8 cond, .int .u32 wd] t2)) (.slice none 0 0) (.slice none 0 0) t
  have h3 := Box2.new (((w.alloc (.cells #[lv, mv] t)).alloc (.cells #[.int .u8 what, l, .string nm, .int .u8 cond, .int .u32 wd] t2)).alloc (.cells #[.slice none 0 0, .slice none 0 0] t)) (.slice none 0 0) (.slice none 0 0) t
  rw [s1] at h1
  rw [s2] at h2
  rw [s3] at h3
  exact ⟨(((Box2.new w lv mv t).al _).al _).al _, (h1.keep (al _ _) id).keep (al _ _) id, h2.al _, h3, by simp⟩
/-- The end of does. -/
theorem DoesOk.fin {w W1 W2 W3 : World} {p m : Nat} {sv : Value} {K : Nat → Prop} {x : Actx} {L Lq : List It} {M Mq : List (List UInt8 × Int)} {lv mv lv' mv' : Value} {b : Bool} (hb1 : Below w.heap.size w W1) (h4 : w.heap.size + 4 ≤ W1.heap.size) (hA : AsmAt w p sv m K L M) (hKb : ∀ k, K k → k < w.heap.size)
    (hst : StepTo W1 p sv m K (x.L L) (x.M L M) W2) (hd : Below W2.heap.size W2 W3) (hb : SameNames M Mq → b = true) (hi : ItemsAt W3 lv' (x.L Lq)) (hm : MarksAt W3 mv' (x.M Lq Mq))
    (hl1 : ∀ k, lv'.ownBlock = some k → lv.ownBlock = some k ∨ W2.heap.size ≤ k) (hm1 : ∀ k, mv'.ownBlock = some k → mv.ownBlock = some k ∨ W2.heap.size ≤ k)
    (hls : ∀ k, lv.ownBlock = some k → k < w.heap.size ∧ ¬ Own p sv m k) (hms : ∀ k, mv.ownBlock = some k → k < w.heap.size ∧ ¬ Own p sv m k) (u v : Value) :
    DoesOk w p sv m K x L M lv mv Lq Mq (.returned (.tuple #[.agg #[lv', mv'], .bool b])) ((((W3.setCell ⟨w.heap.size + 3, 0, none⟩ u).setCell ⟨w.heap.size + 3, 1, none⟩ v).setCell ⟨w.heap.size + 2, 0, none⟩ lv').setCell ⟨w.heap.size + 2, 1, none⟩ mv') := by
  obtain ⟨v1, K1, g1, g2, g3, g5⟩ := hst
  have hbl := hA.blocks
  have hown : ∀ k, Own p sv m k → k < w.heap.size := by
    rintro k (rfl | h | rfl)
    · exact hbl.1
    · exact hbl.2.2 k h
    · exact hbl.2.1
  have ho4 : Only (fun k => k = w.heap.size + 2 ∨ k = w.heap.size + 3) W3 ((((W3.setCell ⟨w.heap.size + 3, 0, none⟩ u).setCell ⟨w.heap.size + 3, 1, none⟩ v).setCell ⟨w.heap.size + 2, 0, none⟩ lv').setCell ⟨w.heap.size + 2, 1, none⟩ mv') :=
    ((((Only.refl _ W3).setCell (p := ⟨w.heap.size + 3, 0, none⟩) (.inr rfl) u).setCell (p := ⟨w.heap.size + 3, 1, none⟩) (.inr rfl) v).setCell (p := ⟨w.heap.size + 2, 0, none⟩) (.inl rfl) lv').setCell (p := ⟨w.heap.size + 2, 1, none⟩) (.inl rfl) mv'
  have hsz2 : W1.heap.size ≤ W2.heap.size := g2.size
  have hsz3 := hd.size
  have hnew : ∀ k, Own p v1 m k → k < w.heap.size ∧ Own p sv m k ∨ W1.heap.size ≤ k ∧ k < W2.heap.size := by
    intro k hk
    have hbl2 := g1.blocks
    have hk2 : k < W2.heap.size := by
      rcases hk with rfl | h | rfl
      · exact hbl2.1
      · exact hbl2.2.2 k h
      · exact hbl2.2.1
    rcases Nat.lt_or_ge k W1.heap.size with h | h
    · exact .inl ⟨hown k (g3 k h hk), g3 k h hk⟩
    · exact .inr ⟨h, hk2⟩
  have hK1 : ∀ k, K1 k → k < w.heap.size ∨ W1.heap.size ≤ k := by
    intro k hk
    rcases Nat.lt_or_ge k W1.heap.size with h | h
    · exact .inl (hKb k (g5 k h hk))
    · exact .inr h
  refine ⟨lv', mv', b, v1, K1, rfl, hb, ?_, ?_, ?_, ?_, ?_, ?_, ?_, ?_, ?_⟩
  · refine (g1.keep (Only.of_below (S := fun _ => False) hd) (fun _ _ h => h) (fun _ _ h => h)).keep ho4 ?_ ?_
    · intro k hk e
      have := hnew k hk; omega
    · intro k hk e
      have := hK1 k hk; omega
  · have o1 : Only (Own p sv m) w W2 := (Only.of_below hb1).fresh g2 (fun _ _ h => h)
    have o2 : Only (Own p sv m) w W3 := o1.fresh (Only.of_below (S := fun _ => False) hd) (fun _ _ h => h.elim)
    exact o2.fresh ho4 (fun k hk e => by omega)
  · intro k hk ho
    exact g3 k (by omega) ho
  · intro k hk ho
    exact g5 k (by omega) ho
  · refine hi.keepO ho4 (fun k hk e => ?_)
    rcases hl1 k hk with h | h
    · have := (hls k h).1; omega
    · omega
  · refine hm.keepO ho4 (fun k hk e => ?_)
    rcases hm1 k hk with h | h
    · have := (hms k h).1; omega
    · omega
  · intro k hk
    have hn := hnew k hk
    refine ⟨fun e => ?_, fun e => ?_⟩
    · rcases hl1 k e with h | h
      · have h2 := hls k h
        rcases hn with hn | hn
        · exact h2.2 hn.2
        · omega
      · omega
    · rcases hm1 k e with h | h
      · have h2 := hms k h
        rcases hn with hn | hn
        · exact h2.2 hn.2
        · omega
      · omega
  · intro k hk
    rcases hl1 k hk with h | h
    · exact .inl h
    · exact .inr (by omega)
  · intro k hk
    rcases hm1 k hk with h | h
    · exact .inl h
    · exact .inr (by omega)
theorem rfl_L0 (x : Actx) (hk : x.what % 5 = 0) : ∀ L M, x.L L = putL L x.l ∧ x.M L M = M := fun L M => by unfold Actx.L Actx.M; rw [hk]; exact ⟨rfl, rfl⟩
theorem rfl_L1 (x : Actx) (hk : x.what % 5 = 1) : ∀ L M, x.L L = L ∧ x.M L M = markM M x.nm L.length := fun L M => by unfold Actx.L Actx.M; rw [hk]; exact ⟨rfl, rfl⟩
theorem rfl_L2 (x : Actx) (hk : x.what % 5 = 2) : ∀ L M, x.L L = jumpL L 17 x.cond x.nm ∧ x.M L M = M := fun L M => by unfold Actx.L Actx.M; rw [hk]; exact ⟨rfl, rfl⟩
theorem rfl_L3 (x : Actx) (hk : x.what % 5 = 3) : ∀ L M, x.L L = jumpL L 18 0 x.nm ∧ x.M L M = M := fun L M => by unfold Actx.L Actx.M; rw [hk]; exact ⟨rfl, rfl⟩
theorem rfl_L4 (x : Actx) (hk : x.what % 5 = 4) : ∀ L M, x.L L = putL L (partsS x.cond x.wd) ∧ x.M L M = M := fun L M => by unfold Actx.L Actx.M; rw [hk]; exact ⟨rfl, rfl⟩
end Go.Proofs.YtkejnhleajfcjaaGreatDoor
/- The walks of muntinlaw07.same and great. -/
namespace Go.Proofs.YtkejnhleajfcjaaGreatDoor
open Go.RowKit Go.Maps
set_option linter.unusedVariables false
set_option linter.unusedSimpArgs false
theorem abt {a b c : World} (h : Below a.heap.size a b) (k : Below b.heap.size b c) : Below a.heap.size a c := h.trans (k.mono h.size)
/-- What is known of a list and the document's. -/
structure Sized (L : List It) (M : List (List UInt8 × Int)) : Prop where
  far : FarL L
  put : PutL L
  len : L.length < 4294967296
  mlen : M.length < 4294967296
  marks : ∀ nm t, look M nm = some t → 0 ≤ t ∧ t < 4294967296
/-- An act that lies at a place. -/
structure Act7At (w : World) (b o : Nat) (x : Actx) (xv : Value) : Prop where
  c0 : w.cell? ⟨b, o, none⟩ = some (.int .u8 x.what)
  c1 : w.cell? ⟨b, o + 1, none⟩ = some xv
  c2 : w.cell? ⟨b, o + 2, none⟩ = some (.string x.nm)
  c3 : w.cell? ⟨b, o + 3, none⟩ = some (.int .u8 x.cond)
  c4 : w.cell? ⟨b, o + 4, none⟩ = some (.int .u32 x.wd)
  b0 : 0 ≤ x.what ∧ x.what < 256
  b1 : 0 ≤ x.cond ∧ x.cond < 256
  b2 : 0 ≤ x.wd ∧ x.wd < 4294967296
  nm : x.nm.size ≤ maxLen
  ins : InsIn w xv x.l
theorem Act7At.keep {a b : World} {k o : Nat} {x : Actx} {xv : Value} (h : Act7At a k o x xv) (hb : Below a.heap.size a b) : Act7At b k o x xv := by
  have hl := World.block_lt_of_cell? _ _ h.c0
  exact ⟨(hb.cell (p := ⟨k, o, none⟩) hl).trans h.c0, (hb.cell (p := ⟨k, o + 1, none⟩) hl).trans h.c1, (hb.cell (p := ⟨k, o + 2, none⟩) hl).trans h.c2, (hb.cell (p := ⟨k, o + 3, none⟩) hl).trans h.c3, (hb.cell (p := ⟨k, o + 4, none⟩) hl).trans h.c4, h.b0, h.b1, h.b2, h.nm, h.ins.keepb hb⟩
/-- A slice of acts, as it came in. -/
def ActsIn (w : World) (v : Value) (l : List Actx) : Prop :=
  l.length ≤ 140737488355328 ∧ (∀ x ∈ l, x.l.length ≤ 140737488355328 ∧ x.nm.size ≤ 140737488355328) ∧ ∃ p c b o, v = .slice p l.length c ∧ (0 < l.length → p = some ⟨b, o, none⟩) ∧ ∀ k x, l[k]? = some x → ∃ xv, Act7At w b (o + k * 5) x xv
def agreatN (l : List Actx) : Nat := (l.map fun x => x.l.length + x.nm.size).sum
theorem agreatN_take (l : List Actx) (k : Nat) (x : Actx) (h : l[k]? = some x) : agreatN (l.take (k + 1)) = agreatN (l.take k) + (x.l.length + x.nm.size) := by
  rw [(take_get l k x h).1]; simp [agreatN]
theorem agreatN_le (l : List Actx) (h : ∀ x ∈ l, x.l.length ≤ 140737488355328 ∧ x.nm.size ≤ 140737488355328) : agreatN l ≤ l.length * 281474976710656 := by
  induction l with
  | nil => simp [agreatN]
  | cons x l ih =>
    have h1 := h x (by simp)
    have h2 := ih (fun y hy => h y (by simp [hy]))
    simp only [agreatN, List.map_cons, List.sum_cons, List.length_cons] at h2 ⊢
    omega
theorem agreatN_mem (l : List Actx) (x : Actx) (h : x ∈ l) : x.l.length + x.nm.size ≤ agreatN l := by
  induction l with
  | nil => simp at h
  | cons y l ih =>
    simp only [agreatN, List.map_cons, List.sum_cons] at ih ⊢
    rcases List.mem_cons.1 h with rfl | h
    · omega
    · have := ih h; omega
def greatB (l : List Actx) : Bool := decide (60 < l.length ∨ 1000 < agreatN l)
end Go.Proofs.YtkejnhleajfcjaaGreatDoor
/- The walk of muntinlaw07.head: lists whose words the document fixes; three lists side by side. -/
namespace Go.Proofs.YtkejnhleajfcjaaGreatDoor
open Go.RowKit Go.Maps
set_option linter.unusedVariables false
set_option linter.unusedSimpArgs false
/-- A list whose blocks are of S, none of them elder than w0. -/
structure Lst (w0 : Nat) (w : World) (p : Nat) (S : Nat → Prop) (L : List It) (M : List (List UInt8 × Int)) : Prop where
  ex : ∃ sv m K, AsmAt w p sv m K L M ∧ (∀ k, Own p sv m k → S k) ∧ (∀ k, K k → S k)
  lo : ∀ k, S k → w0 ≤ k ∧ k < w.heap.size
theorem AsmAt.ownlt {w : World} {p m : Nat} {sv : Value} {K : Nat → Prop} {L : List It} {M : List (List UInt8 × Int)} (h : AsmAt w p sv m K L M) : ∀ k, Own p sv m k → k < w.heap.size := by
  have hbl := h.blocks
  rintro k (rfl | h | rfl)
  · exact hbl.1
  · exact hbl.2.2 k h
  · exact hbl.2.1
theorem Lst.keep {w0 : Nat} {w w2 : World} {p : Nat} {S T : Nat → Prop} {L : List It} {M : List (List UInt8 × Int)} (h : Lst w0 w p T L M) (o : Only S w w2) (hd : ∀ k, T k → ¬ S k) : Lst w0 w2 p T L M := by
  obtain ⟨⟨sv, m, K, hA, hO, hK⟩, hlo⟩ := h
  exact ⟨⟨sv, m, K, hA.keep o (fun k hk => hd k (hO k hk)) (fun k hk => hd k (hK k hk)), hO, hK⟩, fun k hk => ⟨(hlo k hk).1, Nat.lt_of_lt_of_le (hlo k hk).2 o.size⟩⟩
theorem Lst.keepb {w0 : Nat} {w w2 : World} {p : Nat} {T : Nat → Prop} {L : List It} {M : List (List UInt8 × Int)} (h : Lst w0 w p T L M) (hb : Below w.heap.size w w2) : Lst w0 w2 p T L M := h.keep (Only.of_below (S := fun _ => False) hb) (fun _ _ h => h)
theorem Lst.to {w0 : Nat} {w w2 : World} {p : Nat} {S : Nat → Prop} {L L' : List It} {M M' : List (List UInt8 × Int)} {sv : Value} {m : Nat} {K : Nat → Prop} (h : Lst w0 w p S L M) (hw : w0 ≤ w.heap.size) (hO : ∀ k, Own p sv m k → S k) (hK : ∀ k, K k → S k) (hst : StepTo w p sv m K L' M' w2) :
    ∃ S', Lst w0 w2 p S' L' M' ∧ Only S w w2 ∧ (∀ k, S' k → S k ∨ w.heap.size ≤ k) := by
  obtain ⟨v', K', g1, g2, g3, g4⟩ := hst
  refine ⟨fun k => (Own p v' m k ∨ K' k) ∧ k < w2.heap.size, ⟨⟨v', m, _, g1.trim, fun k hk => ⟨.inl hk, g1.ownlt k hk⟩, fun k hk => ⟨.inr hk.1, hk.2⟩⟩, ?_⟩, g2.mono (fun k _ hk => hO k hk), ?_⟩
  · intro k hk
    refine ⟨?_, hk.2⟩
    rcases Nat.lt_or_ge k w.heap.size with hl | hl
    · rcases hk.1 with h1 | h1
      · exact (h.lo k (hO k (g3 k hl h1))).1
      · exact (h.lo k (hK k (g4 k hl h1))).1
    · omega
  · intro k hk
    rcases Nat.lt_or_ge k w.heap.size with hl | hl
    · rcases hk.1 with h1 | h1
      · exact .inl (hO k (g3 k hl h1))
      · exact .inl (hK k (g4 k hl h1))
    · exact .inr hl
theorem dis_step {w : World} {S S' T : Nat → Prop} (hd : ∀ k, S k → ¬ T k) (hS : ∀ k, S' k → S k ∨ w.heap.size ≤ k) (hT : ∀ k, T k → k < w.heap.size) : ∀ k, S' k → ¬ T k := by
  intro k hk ht
  rcases hS k hk with h | h
  · exact hd k h ht
  · have := hT k ht; omega
theorem dis_comm {S T : Nat → Prop} (hd : ∀ k, S k → ¬ T k) : ∀ k, T k → ¬ S k := fun k ht hs => hd k hs ht
theorem Only.lower {S : Nat → Prop} {w0 w w2 : World} (hb : Below w0.heap.size w0 w) (o : Only S w w2) (hs : ∀ k, S k → w0.heap.size ≤ k) : Below w0.heap.size w0 w2 :=
  hb.trans (o.below hb.size (fun k hk hh => by have := hs k hh; omega))
theorem new_lst (w0 w : World) (hb : Below w0.heap.size w0 w) : Calls Tryz.prog 53 #[] w fun e w' => ∃ p S, e = .returned (.pointer (some ⟨p, 0, none⟩)) ∧ Lst w0.heap.size w' p S [] [] ∧ (∀ k, S k → w.heap.size ≤ k) ∧ Below w.heap.size w w' := by
  refine (anew_any w).mono ?_
  rintro e w' ⟨p, m, rfl, hp, hm, hA, hB⟩
  have h1 := hb.size
  have h2 := hB.size
  refine ⟨p, fun k => Own p (.slice none 0 0) m k, rfl, ⟨⟨_, m, _, hA, fun k h => h, fun k h => h.elim⟩, fun k hk => ⟨?_, hA.ownlt k hk⟩⟩, ?_, hB⟩
  · rcases hk with rfl | h | rfl
    · omega
    · simp [Value.ownBlock] at h
    · omega
  · rintro k (rfl | h | rfl)
    · exact hp
    · simp [Value.ownBlock] at h
    · exact hm
def La1 : List It := putL [] (partsS 1 5)
def La2 : List It := putL La1 (partsS 1 4294967295)
def La3 : List It := putL La2 (partsS 1 305419896)
def La4 : List It := putL La3 (partsS 1 32768)
def nmx : ByteArray := ⟨#[120]⟩
def nmy : ByteArray := ⟨#[121]⟩
def Lb1 : List It := jumpL [] 17 0 nmx
def Lb2 : List It := putL Lb1 [⟨32, 0, 0, 0, false, 0⟩]
def Mb1 : List (List UInt8 × Int) := markM [] nmx Lb2.length
def Mb2 : List (List UInt8 × Int) := markM Mb1 nmx Lb2.length
def Lc1 : List It := jumpL [] 18 0 nmy
theorem la_len : La1.length = 1 ∧ La2.length = 2 ∧ La3.length = 4 ∧ La4.length = 5 ∧ Lb1.length = 1 ∧ Lb2.length = 2 ∧ Lc1.length = 1 ∧ Mb1.length = 1 ∧ Mb2.length = 1 := by decide
theorem la_words : wordsE [] 0 La4 = 0 ∧ wordsL [] 0 La4 = [69238789, 69271551, 1008879242, 471959160, 1008730128] := by decide
theorem lb_words : wordsE Mb2 0 Lb2 = 0 ∧ wordsL Mb2 0 Lb2 = [1140850690, 2147483648] := by decide
theorem lc_words : wordsE [] 0 Lc1 = 7 := by decide
theorem lb_marks : markE [] nmx = 0 ∧ markE Mb1 nmx = 9 ∧ atN Mb2 nmx = 2 ∧ atE Mb2 nmx = 0 := by decide
theorem look_nil (nm : List UInt8) (t : Int) : look [] nm = some t → 0 ≤ t ∧ t < 4294967296 := by intro h; cases h
theorem mb_look (nm : List UInt8) (t : Int) : look Mb2 nm = some t → 0 ≤ t ∧ t < 4294967296 := by
  have h : Mb2 = [([120], 2)] := by decide
  rw [h]
  unfold look
  intro h2
  simp only [List.find?_cons, List.find?_nil] at h2
  split at h2
  · cases h2; exact ⟨by decide, by decide⟩
  · cases h2
/-- The table, and that it lies below. -/
structure TabLo (w0 : Nat) (w : World) : Prop where
  tab : Tab w
  lo : 0 < w0
theorem TabLo.start {w0 w : World} (h : Tab w0) (hb : Below w0.heap.size w0 w) : TabLo w0.heap.size w := ⟨h.keep hb, World.block_lt_of_cell? _ _ (h 0 (by omega))⟩
theorem TabLo.keepO {w0 : Nat} {S : Nat → Prop} {w w2 : World} (h : TabLo w0 w) (o : Only S w w2) (hs : ∀ k, S k → w0 ≤ k) : TabLo w0 w2 :=
  ⟨fun i hi => (o.cell (p := ⟨0, i, none⟩) (World.block_lt_of_cell? _ _ (h.tab i hi)) (fun hk => by have h1 : w0 ≤ 0 := hs _ hk; have := h.lo; omega)).trans (h.tab i hi), h.lo⟩
theorem TabLo.keepb {w0 : Nat} {w w2 : World} (h : TabLo w0 w) (hb : Below w.heap.size w w2) : TabLo w0 w2 := ⟨h.tab.keep hb, h.lo⟩
end Go.Proofs.YtkejnhleajfcjaaGreatDoor
