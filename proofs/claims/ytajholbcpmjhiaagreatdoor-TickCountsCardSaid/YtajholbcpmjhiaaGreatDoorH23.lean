/- Several texts in one: InstREnc, MachSmall, MachMade, MachPsr, WindMadeLaw, WindTurn, AsmCopy, AsmStep, AsmAct, AsmSame, AsmHead. -/
import Derived.Test.YtajholbcpmjhiaaGreatDoorH20
import Derived.Test.YtajholbcpmjhiaaGreatDoorH21
import Derived.Test.YtajholbcpmjhiaaGreatDoorH22
import Derived.Test.YtajholbcpmjhiaaGreatDoorH09
import Derived.Shelf.SlMaps.Clone
import Derived.Deep.AppendLies
set_option linter.unusedVariables false
set_option linter.unusedSimpArgs false
/- Walks of the document's May and Encode (muntinref02). -/
namespace Go.Proofs.YtajholbcpmjhiaaGreatDoor
open Go.RowKit
set_option maxRecDepth 100000 in
set_option maxHeartbeats 1000000 in
theorem rmay_zero (x : Ix) (hb : x.bd) (hk : kindS x.op = 0) (w : World) :
    Calls Tryz.prog 60 #[x.agg] w fun e w' => e = .returned (.bool (mayB x)) ∧ Below w.heap.size w w' := by
  have E := ihid (may_out (.inr (.inr (.inr (.inl hk)))))
  obtain ⟨op, rd, rs1, rs2, is, imm⟩ := x
  have b0 := hb.1
  simp only at b0 hk
  have HK := ihid hk
  clear hk hb
  go_enter Tryz.func60, Tryz.ntmps60
  go_wp2_with fail
  refine (rkind_any op 0 b0.1 HK.out _).mono ?_
  rintro e w' ⟨rfl, rfl⟩
  go_wp2_with fail
  go_ret
  exact ⟨iretb E.out.symm, (Below.refl _ _).alloc (Nat.le_refl _) _⟩
theorem rmay_any (x : Ix) (hb : x.bd) (w : World) :
    Calls Tryz.prog 60 #[x.agg] w fun e w' => e = .returned (.bool (mayB x)) ∧ Below w.heap.size w w' := by
  by_cases h0 : kindS x.op = 0
  · exact rmay_zero x hb h0 w
  · by_cases ho : x.rd ≤ 31 ∧ x.rs1 ≤ 31 ∧ x.rs2 ≤ 31 ∧ (x.is = true → x.rs2 = 0) ∧ (x.is = false → x.imm = 0)
    · obtain ⟨h1, h2, h3, h4, h5⟩ := ho
      obtain ⟨op, rd, rs1, rs2, is, imm⟩ := x
      simp only at h1 h2 h3 h4 h5
      rcases kind_cases op with hk | hk | hk | hk | hk | hk | hk | hk | hk | hk | hk | hk | hk
      · exact absurd hk h0
      · cases is
        · exact rmay_1f _ _ _ _ _ hb hk h1 h2 h3 (h5 rfl) w
        · exact rmay_1t _ _ _ _ _ hb hk h1 h2 h3 (h4 rfl) w
      · cases is
        · exact rmay_2f _ _ _ _ _ hb hk h1 h2 h3 (h5 rfl) w
        · exact rmay_2t _ _ _ _ _ hb hk h1 h2 h3 (h4 rfl) w
      · cases is
        · exact rmay_3f _ _ _ _ _ hb hk h1 h2 h3 (h5 rfl) w
        · exact rmay_3t _ _ _ _ _ hb hk h1 h2 h3 (h4 rfl) w
      · cases is
        · exact rmay_4f _ _ _ _ _ hb hk h1 h2 h3 (h5 rfl) w
        · by_cases h6 : rd ≤ 6
          · exact rmay_4ty _ _ _ _ _ hb hk h1 h2 h3 (h4 rfl) h6 w
          · exact rmay_4tn _ _ _ _ _ hb hk h1 h2 h3 (h4 rfl) (by omega) w
      · cases is
        · exact rmay_5f _ _ _ _ _ hb hk h1 h2 h3 (h5 rfl) w
        · exact rmay_5t _ _ _ _ _ hb hk h1 h2 h3 (h4 rfl) w
      · cases is
        · exact rmay_6f _ _ _ _ _ hb hk h1 h2 h3 (h5 rfl) w
        · exact rmay_6t _ _ _ _ _ hb hk h1 h2 h3 (h4 rfl) w
      · cases is
        · exact rmay_7f _ _ _ _ _ hb hk h1 h2 h3 (h5 rfl) w
        · exact rmay_7t _ _ _ _ _ hb hk h1 h2 h3 (h4 rfl) w
      · cases is
        · exact rmay_8f _ _ _ _ _ hb hk h1 h2 h3 (h5 rfl) w
        · exact rmay_8t _ _ _ _ _ hb hk h1 h2 h3 (h4 rfl) w
      · cases is
        · exact rmay_9f _ _ _ _ _ hb hk h1 h2 h3 (h5 rfl) w
        · exact rmay_9t _ _ _ _ _ hb hk h1 h2 h3 (h4 rfl) w
      · cases is
        · exact rmay_10f _ _ _ _ _ hb hk h1 h2 h3 (h5 rfl) w
        · exact rmay_10t _ _ _ _ _ hb hk h1 h2 h3 (h4 rfl) w
      · cases is
        · exact rmay_11f _ _ _ _ _ hb hk h1 h2 h3 (h5 rfl) w
        · exact rmay_11t _ _ _ _ _ hb hk h1 h2 h3 (h4 rfl) w
      · cases is
        · exact rmay_12f _ _ _ _ _ hb hk h1 h2 h3 (h5 rfl) w
        · exact rmay_12t _ _ _ _ _ hb hk h1 h2 h3 (h4 rfl) w
    · exact rmay_out x hb h0 ho w
set_option maxHeartbeats 400000 in
theorem rlow_any (n of : Int) (hof : of = 2097152 ∨ of = 32768) (h0 : -2147483648 ≤ n) (h1 : n < 2147483648) (w : World) : Calls Tryz.prog 62 #[.int .i32 n, .int .i64 of] w fun e w' => e = .returned (.int .u32 (n % of)) ∧ w = w' := by
  have hm : 0 ≤ n.tmod of ∧ n.tmod of = n % of ∨ n.tmod of < 0 ∧ n.tmod of + of = n % of := by
    rw [Int.tmod_eq_emod]
    have hd : of ∣ n ↔ n % of = 0 := Int.dvd_iff_emod_eq_zero
    have : 0 ≤ n % of ∧ n % of < of := by rcases hof with rfl | rfl <;> omega
    have ho : (of.natAbs : Int) = of := by rcases hof with rfl | rfl <;> rfl
    split <;> rename_i h
    · left; omega
    · have hh : ¬ (0 ≤ n ∨ n % of = 0) := fun h2 => h (h2.imp id hd.2)
      right; omega
  have hr : 0 ≤ n % of ∧ n % of < of := by rcases hof with rfl | rfl <;> omega
  have ht : -4294967296 < n.tmod of ∧ n.tmod of < 4294967296 := by rcases hof with rfl | rfl <;> omega
  have ho : 0 < of ∧ of < 4294967296 := by rcases hof with rfl | rfl <;> omega
  have h00 : (of == 0) = false := by rcases hof with rfl | rfl <;> rfl
  have hw : IntKind.i64.wrap (n.tmod of) = n.tmod of := IntWalk.i64_in _ (by omega)
  have hw3 : wrap64 (n.tmod of) = n.tmod of := by rw [IntWalk.wrap64_in _ (by omega)]
  have HM := ihid hm
  have HR := ihid hr
  clear hm hr hof
  by_cases hs : n.tmod of < 0
  · have hs2 : decide (n.tmod of < 0) = true := by simpa using hs
    have HE : n.tmod of + of = n % of := by have := HM.out; omega
    have hb : 0 ≤ n.tmod of + of ∧ n.tmod of + of < 4294967296 := by have := HR.out; omega
    have hw5 : wrap64 (n.tmod of + of) = n.tmod of + of := by rw [IntWalk.wrap64_in _ (by omega)]
    have hw6 : (n.tmod of + of) % 4294967296 = n.tmod of + of := Int.emod_eq_of_lt hb.1 hb.2
    replace HE := ihid HE
    go_enter Tryz.func62, Tryz.ntmps62
    go_wp2
    go_ret
    exact ⟨iret (by first | exact HE.out | (rw [hw5, hw6]; exact HE.out)), rfl⟩
  · have hs2 : decide (n.tmod of < 0) = false := by simpa using hs
    have HE : n.tmod of = n % of := by have := HM.out; omega
    have hb : 0 ≤ n.tmod of ∧ n.tmod of < 4294967296 := by omega
    replace HE := ihid HE
    go_enter Tryz.func62, Tryz.ntmps62
    go_wp2
    go_ret
    exact ⟨iret HE.out, rfl⟩
set_option maxRecDepth 100000 in
set_option maxHeartbeats 1000000 in
theorem renc_any (x : Ix) (hb : x.bd) (w : World) :
    Calls Tryz.prog 15 #[x.agg] w fun e w' => e = .returned (.tuple #[.int .u32 (encS x), .int .i64 (encE x)]) ∧ Below w.heap.size w w' := by
  have hm := rmay_any x hb (w.alloc (.cells #[.int .u8 x.op, .int .u8 x.rd, .int .u8 x.rs1, .int .u8 x.rs2, .bool x.is, .int .i32 x.imm] 41))
  unfold encS encE
  by_cases h : mayP x
  · rw [if_pos h, if_pos h]
    rw [show mayB x = true from decide_eq_true h] at hm
    have HM := ihid hm
    have B := may_bd hb h
    have HP := ihid h
    obtain ⟨op, rd, rs1, rs2, is, imm⟩ := x
    obtain ⟨b0, b1, b2, b3, b4⟩ := hb
    simp only at b0 b1 b2 b3 b4 B
    have hl1 := rlow_any imm 2097152 (.inl rfl) b4.1 b4.2
    have hl2 := rlow_any imm 32768 (.inr rfl) b4.1 b4.2
    have HL1 := ihid hl1
    have HL2 := ihid hl2
    have hk := fun W => rkind_any op (kindS op) b0.1 rfl W
    have HK := ihid hk
    have c1 : 0 ≤ imm % 2097152 ∧ imm % 2097152 < 2097152 := by omega
    have c2 : 0 ≤ imm % 32768 ∧ imm % 32768 < 32768 := by omega
    clear hm h hl1 hl2 hk
    have hnext : ∀ w' : World, Below (w.alloc (.cells #[.int .u8 op, .int .u8 rd, .int .u8 rs1, .int .u8 rs2, .bool is, .int .i32 imm] 41)).heap.size (w.alloc (.cells #[.int .u8 op, .int .u8 rd, .int .u8 rs1, .int .u8 rs2, .bool is, .int .i32 imm] 41)) w' →
        w'.cell? ⟨w.heap.size, 0, none⟩ = some (.int .u8 op) ∧ w'.cell? ⟨w.heap.size, 1, none⟩ = some (.int .u8 rd) ∧ w'.cell? ⟨w.heap.size, 2, none⟩ = some (.int .u8 rs1) ∧ w'.cell? ⟨w.heap.size, 3, none⟩ = some (.int .u8 rs2) ∧ w'.cell? ⟨w.heap.size, 4, none⟩ = some (.bool is) ∧ w'.cell? ⟨w.heap.size, 5, none⟩ = some (.int .i32 imm) ∧ Below w.heap.size w w' := by
      intro w' hbl
      refine ⟨?_, ?_, ?_, ?_, ?_, ?_, ((Below.refl _ _).alloc (Nat.le_refl _) _).trans (hbl.mono (by simp))⟩
      · exact (hbl.cell (p := ⟨w.heap.size, 0, none⟩) (by simp)).trans (by simp)
      · exact (hbl.cell (p := ⟨w.heap.size, 1, none⟩) (by simp)).trans (by simp)
      · exact (hbl.cell (p := ⟨w.heap.size, 2, none⟩) (by simp)).trans (by simp)
      · exact (hbl.cell (p := ⟨w.heap.size, 3, none⟩) (by simp)).trans (by simp)
      · exact (hbl.cell (p := ⟨w.heap.size, 4, none⟩) (by simp)).trans (by simp)
      · exact (hbl.cell (p := ⟨w.heap.size, 5, none⟩) (by simp)).trans (by simp)
    have HN := ihid hnext
    clear hnext
    by_cases hl : longK (kindS op)
    · have hk1 : decide (3 ≤ kindS op) = true := by rcases hl with h | h | h <;> rw [h] <;> rfl
      have hk2 : decide (kindS op ≤ 5) = true := by rcases hl with h | h | h <;> rw [h] <;> rfl
      have E := ihid (show wordS ⟨op, rd, rs1, rs2, is, imm⟩ = op * 67108864 + rd * 2097152 + imm % 2097152 by unfold wordS tailS; rw [if_pos hl])
      clear hl
      generalize kindS op = q at hk1 hk2 HK
      go_enter Tryz.func15, Tryz.ntmps15
      go_wp2_with fail
      refine HM.out.mono ?_
      rintro e w' ⟨rfl, hbl⟩
      obtain ⟨x0, x1, x2, x3, x4, x5, xb⟩ := HN.out w' hbl
      have XB := ihid xb
      clear hbl xb
      go_wp2_with fail
      refine (HK.out _).mono ?_
      rintro e w'' ⟨rfl, rfl⟩
      go_wp2_with fail
      refine (HL1.out _).mono ?_
      rintro e w'' ⟨rfl, rfl⟩
      go_wp2_with fail
      go_ret2
      exact ⟨iret2 E.out.symm rfl, XB.out⟩
    · have hkd : (decide (3 ≤ kindS op) && decide (kindS op ≤ 5)) = false := by
        unfold longK at hl; simp; omega
      have hks : decide (3 ≤ kindS op) = false ∨ decide (3 ≤ kindS op) = true ∧ decide (kindS op ≤ 5) = false := by
        simp at hkd ⊢; omega
      have E1 := ihid (show wordS ⟨op, rd, rs1, rs2, true, imm⟩ = op * 67108864 + rd * 2097152 + rs1 * 65536 + 32768 + imm % 32768 by unfold wordS tailS; rw [if_neg hl]; simp; omega)
      have E2 := ihid (show wordS ⟨op, rd, rs1, rs2, false, imm⟩ = op * 67108864 + rd * 2097152 + rs1 * 65536 + rs2 by unfold wordS tailS; rw [if_neg hl]; simp; omega)
      clear hl hkd
      generalize kindS op = q at hks HK
      rcases hks with hk1 | ⟨hk1, hk2⟩ <;> cases is
      all_goals
        go_enter Tryz.func15, Tryz.ntmps15
        go_wp2_with fail
        refine HM.out.mono ?_
        rintro e w' ⟨rfl, hbl⟩
        obtain ⟨x0, x1, x2, x3, x4, x5, xb⟩ := HN.out w' hbl
        have XB := ihid xb
        clear hbl xb
        go_wp2_with fail
        refine (HK.out _).mono ?_
        rintro e w'' ⟨rfl, rfl⟩
        go_wp2_with (go_at_call 62; refine (HL2.out _).mono ?_; rintro e w'' ⟨rfl, rfl⟩)
        go_ret2
        first | exact ⟨iret2 E1.out.symm rfl, XB.out⟩ | exact ⟨iret2 E2.out.symm rfl, XB.out⟩
  · rw [if_neg h, if_neg h]
    rw [show mayB x = false from decide_eq_false h] at hm
    have HM := ihid hm
    clear hm h hb
    obtain ⟨op, rd, rs1, rs2, is, imm⟩ := x
    go_enter Tryz.func15, Tryz.ntmps15
    go_wp2_with fail
    refine HM.out.mono ?_
    rintro e w' ⟨rfl, hbl⟩
    have HB := ihid hbl
    clear hbl
    go_wp2_with fail
    go_ret2
    exact ⟨rfl, ((Below.refl _ _).alloc (Nat.le_refl _) _).trans (HB.out.mono (by simp))⟩
end Go.Proofs.YtajholbcpmjhiaaGreatDoor
/- The walks of muntinlaw06.word and small. -/
namespace Go.Proofs.YtajholbcpmjhiaaGreatDoor
open Go.RowKit
theorem encS_bd {x : Ix} (hb : x.bd) : 0 ≤ encS x ∧ encS x < 4294967296 := by
  unfold encS
  split
  · rename_i h; have := word_bd hb h; omega
  · omega
end Go.Proofs.YtajholbcpmjhiaaGreatDoor
/- The walks of mach.Load, Choose, SetPsr. -/
namespace Go.Proofs.YtajholbcpmjhiaaGreatDoor
open Go.RowKit
theorem putV_len (d : List Int) (a : Int) (l : List Int) : (putV d a l).length = d.length := by
  unfold putV
  split
  · exact putS_len l d _
  · rfl
theorem own_range {w : World} {base : Nat} {v : Value} {t : TypeId} {n : Nat} {l : List Value} (h : w.ownsRow base t 1 v n l) : ∀ k, v.ownBlock = some k → base ≤ k ∧ k < w.heap.size := by
  intro k hk
  rcases h.2 with ⟨h1, h2⟩ | ⟨g, cap, cur, h1, h2, h3, h4⟩
  · rw [h1] at hk; cases hk
  · rw [h1] at hk; cases hk
    exact ⟨h2, (Array.getElem?_eq_some_iff.1 h3).1⟩
def spsrM (m : Mx) (q : Px) : Mx := if packE q m.nw = 0 then { m with p := q } else m
end Go.Proofs.YtajholbcpmjhiaaGreatDoor
/- The walk of mach.SetPsr. -/
namespace Go.Proofs.YtajholbcpmjhiaaGreatDoor
open Go.RowKit
set_option maxRecDepth 100000 in
set_option maxHeartbeats 2000000 in
theorem msetpsr_any (w : World) (G : MG) (M : Nat) (m : Mx) (h : MachAt w G M m) (q : Px) (hq : q.bd) :
    Calls Tryz.prog 55 #[.pointer (some ⟨M, 0, none⟩), q.agg] w fun e w' => e = .returned (.int .i64 (packE q m.nw)) ∧ MachAt w' G M (spsrM m q) ∧ Only (fun k => k = M) w w' := by
  have HN := mhid (fun w' hb => mmnone_made w' M _ (h.keepb (w' := w') hb).mc.f)
  have HF := mhid (fun w' => (show Calls Tryz.prog 124 #[q.agg, .int .i64 m.f.nw] w' fun e w2 => e = .returned (.tuple #[.int .u32 (packS q m.nw), .int .i64 (packE q m.nw)]) ∧ Below w'.heap.size w' w2 from pack_any q hq m.f.nw w'))
  have H := mhid h
  have HQ := mhid hq
  have HS := mhid (show spsrM m q = if packE q m.nw = 0 then { m with p := q } else m from rfl)
  have HPM := mhid (show packE q m.nw = 0 → pmayP q m.nw from fun e => by unfold packE at e; split at e; exact (by assumption : _ ∧ _).2; cases e)
  obtain ⟨B, hB⟩ : ∃ B, B = w.heap.size := ⟨_, rfl⟩
  obtain ⟨W, hW⟩ : ∃ W, W = w.alloc (.cells #[.int .u8 q.cwp, .int .u8 q.pil, .int .u8 q.bank, .int .u8 q.flags] 47) := ⟨_, rfl⟩
  clear h hq
  generalize packE q m.nw = er at *
  generalize packS q m.nw = ps at *
  go_enter Tryz.func55, Tryz.ntmps55
  go_wp2_with fail
  rw [← hW, ← hB] 
  have hbb : Below w.heap.size w W := by rw [hW]; exact (Below.refl _ _).alloc (Nat.le_refl _) _
  have hbx : ARow W B 47 (psrC q) := by rw [hW, hB]; exact ARow.fresh w 47 #[.int .u8 q.cwp, .int .u8 q.pil, .int .u8 q.bank, .int .u8 q.flags]
  have hBs : w.heap.size ≤ B := by omega
  have hneq : M ≠ B := by have := H.out.lt M (by rw [H.out.rM]; simp); omega
  clear hW hB
  refine (HN.out W hbb).mono ?_
  rintro e w0 ⟨rfl, rfl⟩
  have HH := mhid (And.intro hbb hbx)
  have hd : Below W.heap.size W W.drew := (Below.refl _ _).drew
  have HSS := mhid (show ∀ w', Below W.heap.size W w' → w'.cell? ⟨M, 0, none⟩ = some (.int .i64 m.f.nw) ∧ w'.cell? ⟨B, 0, none⟩ = some (.int .u8 q.cwp) ∧ w'.cell? ⟨B, 1, none⟩ = some (.int .u8 q.pil) ∧ w'.cell? ⟨B, 2, none⟩ = some (.int .u8 q.bank) ∧ w'.cell? ⟨B, 3, none⟩ = some (.int .u8 q.flags) from fun w' h => by
    have hx := HH.out.2.below h
    exact ⟨(H.out.keepb (HH.out.1.trans (h.mono HH.out.1.size))).mc.nw, hx.cell (k := 0) rfl, hx.cell (k := 1) rfl, hx.cell (k := 2) rfl, hx.cell (k := 3) rfl⟩)
  have hS0 := HSS.out W (Below.refl _ _)
  clear hbb hbx
  go_wp2_with fail
  go_region_held3 (fun w' => w'.cell? ⟨M, 0, none⟩ = some (.int .i64 m.f.nw) ∧ w'.cell? ⟨B, 0, none⟩ = some (.int .u8 q.cwp) ∧ w'.cell? ⟨B, 1, none⟩ = some (.int .u8 q.pil) ∧ w'.cell? ⟨B, 2, none⟩ = some (.int .u8 q.bank) ∧ w'.cell? ⟨B, 3, none⟩ = some (.int .u8 q.flags)) (first | (with_reducible exact hS0) | (refine HSS.out _ ?_; go_grown; done) | (exact HSS.out _ hb1))
    ((go_at_call 124; (with_reducible refine (HF.out _).mono ?_); rintro e W1 ⟨rfl, hb10⟩; have hb1 := hd.trans (hb10.mono hd.size)))
  have hbw : Below w.heap.size w W1 := HH.out.1.trans (hb1.mono HH.out.1.size)
  have H1 := mhid (H.out.keepb hbw)
  have hx1 := HH.out.2.below hb1
  have HB1 := mhid hbw
  clear hb1 hb10 hbw HSS hd
  obtain ⟨-, b0, b1, b2, b3⟩ : True ∧ W1.cell? ⟨B, 0, none⟩ = some (.int .u8 q.cwp) ∧ W1.cell? ⟨B, 1, none⟩ = some (.int .u8 q.pil) ∧ W1.cell? ⟨B, 2, none⟩ = some (.int .u8 q.bank) ∧ W1.cell? ⟨B, 3, none⟩ = some (.int .u8 q.flags) := ⟨trivial, hx1.cell (k := 0) rfl, hx1.cell (k := 1) rfl, hx1.cell (k := 2) rfl, hx1.cell (k := 3) rfl⟩
  have c5 := H1.out.mc.cwp
  have c6 := H1.out.mc.pil
  have c7 := H1.out.mc.bank
  have c8 := H1.out.mc.flags
  have f5 := H1.out.mc.fz 5
  have f6 := H1.out.mc.fz 6
  have f7 := H1.out.mc.fz 7
  have f8 := H1.out.mc.fz 8
  by_cases hz : er = 0
  · rw [if_pos hz] at HS
    have HPM2 := mhid (HPM.out hz)
    subst hz
    go_wp2_with fail
    go_ret
    rw [HS.out]
    exact ⟨rfl, H1.out.setPsr HQ.out HPM2.out, (Only.of_below HB1.out).trans (onlyM4 W1 M _ _ _ _)⟩
  · rw [if_neg hz] at HS
    have k1 : (er != 0) = true := by simpa using hz
    clear hz
    go_wp2_with fail
    go_ret
    rw [HS.out]
    exact ⟨rfl, H1.out, Only.of_below HB1.out⟩
end Go.Proofs.YtajholbcpmjhiaaGreatDoor
/- Plain law: code in a memory; what a wind machine is made of. No program in sight. -/
namespace Go.Proofs.YtajholbcpmjhiaaGreatDoor
open Go.RowKit
theorem encS_word {x : Ix} (h : mayP x) : encS x = wordS x := if_pos h
theorem encs_words {I : List Ix} (h : ∀ x ∈ I, okI x) : Words (I.map encS) := fun y hy => by
  obtain ⟨x, hx, rfl⟩ := List.mem_map.1 hy
  exact encS_bd (h x hx).1
theorem codes_put {d : List Int} {I : List Ix} {a : Nat} (ha : a % 4 = 0) (hok : ∀ x ∈ I, okI x) (hl : a + 4 * I.length ≤ d.length) : Codes (putV d a (I.map encS)) a I := by
  have hsp : spanE d.length (a : Int) ((I.map encS).length : Nat) 4 = 0 := by rw [List.length_map]; exact spanE_row _ _ _ ha hl
  unfold putV
  rw [if_pos hsp, Int.toNat_natCast]
  intro i x hx
  have hi := (List.getElem?_eq_some_iff.1 hx).1
  have hm := List.mem_of_getElem? hx
  refine ⟨by omega, by rw [putS_len]; omega, ?_, (hok x hm).2, (hok x hm).1⟩
  rw [load_put (I.map encS) d a i (encs_words hok) (by rw [List.length_map]; exact hl) (by rw [List.length_map]; exact hi), ← encS_word (hok x hm).2, List.getD_eq_getElem?_getD, List.getElem?_map, hx]
  rfl
end Go.Proofs.YtajholbcpmjhiaaGreatDoor
/- Plain law: a SAVE, or a RESTORE, that traps, its handler, and the second try. No program in sight. -/
namespace Go.Proofs.YtajholbcpmjhiaaGreatDoor
open Go.RowKit
theorem unpacked {p : Px} {nw : Int} (hb : p.bd) (hw : winP nw) (hm : pmayP p nw) : unE (packW p) nw = 0 ∧ unS (packW p) nw = p := by
  have hu := un_pack hb hw hm
  have hk : unOk (packW p) nw := ⟨(pack_bd hb hw hm).2, by rw [hu]; exact hm⟩
  unfold unE unS
  rw [if_pos hw, if_pos hk, if_pos ⟨hw, hk⟩]
  exact ⟨rfl, hu⟩
end Go.Proofs.YtajholbcpmjhiaaGreatDoor
/- Walks of the package asm: Copy; the library's clones. -/
namespace Go.Proofs.YtajholbcpmjhiaaGreatDoor
open Go.RowKit Go.Maps
set_option maxRecDepth 100000 in
theorem acell {W w1 : World} (hb : Below W.heap.size W w1) : (∀ b o, b < W.heap.size → w1.cell? ⟨b, o, none⟩ = W.cell? ⟨b, o, none⟩) ∧ (∀ b o, b < W.heap.size → w1.frozen? ⟨b, o, none⟩ = W.frozen? ⟨b, o, none⟩) :=
  ⟨fun b o h => hb.cell (p := ⟨b, o, none⟩) h, fun b o h => hb.frozen (p := ⟨b, o, none⟩) h⟩
set_option maxRecDepth 100000 in
theorem mclone_any (w : World) (m n : Nat) (D : DataW Unit) (h : w.ownsMap Tryz.prog 9 (plainElem Tryz.prog 3) m n D) :
    Calls Tryz.prog 136 #[.map (some m)] w fun e w' => e = .returned (.map (some w.heap.size)) ∧ w'.ownsMap Tryz.prog 9 (plainElem Tryz.prog 3) w.heap.size n D ∧ Below w.heap.size w w' := by
  obtain ⟨es, cl, hb, F, hz, hD⟩ := h
  have hq := fun w => run_eql_map_nil_sl (P := Tryz.prog) w 133 _ _ (some m) Tryz.underlying133
  have HB := ahid hb
  have HF := ahid (And.intro F (And.intro hz hD))
  clear hb F hz hD
  go_enter Tryz.func136, Tryz.ntmps136
  go_wp2
  rw [run_callFunc_extern Tryz.func192 (by kernel_rfl) (by kernel_rfl) (by kernel_rfl) (e := Extern.MapsClone.clone) (by kernel_rfl), run_maps_clone_sl w 133 HB.out]
  simp only [Result.andThen]
  rw [Oper.upon_value]
  go_wp2
  rw [run_typeAssert_map_sl _ 133 20 _ _ _ Tryz.underlying133]
  simp only [Result.andThen]
  rw [Oper.upon_value]
  go_wp2
  go_ret
  exact ⟨rfl, ⟨es, cl, (MapKept.heap_alloc w _).1, HF.out⟩, (Below.refl _ _).alloc (Nat.le_refl _) _⟩
def likeSl (v : Value) (g n cap : Nat) : Value := match v with | .slice none _ _ => .slice none 0 0 | _ => .slice (some ⟨g, 0, none⟩) n cap
set_option maxRecDepth 100000 in
theorem aclone_any (w : World) (sv : Value) (n : Nat) (vs : List Value) (h : w.ownsRow 0 150 1 sv n vs) (h1 : ∀ u ∈ vs, u.oneCell' = true) (hn : n < 4294967296) :
    Calls Tryz.prog 135 #[sv] w fun e w' => ∃ g' cap', e = .returned (likeSl sv g' n cap') ∧ w'.ownsRow w.heap.size 150 1 (likeSl sv g' n cap') n vs ∧ Below w.heap.size w w' := by
  obtain ⟨i0, hi, hz0, hz1, hz2⟩ := info_parts infow
  rcases h.2 with ⟨rfl, hl0⟩ | ⟨g, cap, cur, rfl, hrest⟩
  · have q22 : ∀ (w : World) (a : Option Addr) (n c n' c' : Nat), (binOp .eql 134 (.slice a n c) (.slice none n' c')).run Tryz.prog w = .ok (.bool a.isNone) w := fun w a n c n' c' => Lib.run_eql_slice_nil w _ _ a n c n' c' Tryz.underlying134
    obtain rfl : vs = [] := List.eq_nil_of_length_eq_zero (by rw [h.1, hl0])
    subst hl0
    clear h h1
    have HZ := ahid (World.ownsRow_nil w w.heap.size 150 1)
    go_enter Tryz.func135, Tryz.ntmps135
    go_wp2
    go_ret
    exact ⟨0, 0, rfl, HZ.out, Below.refl _ _⟩
  · have q22 : ∀ (w : World) (a : Option Addr) (n c n' c' : Nat), (binOp .eql 134 (.slice a n c) (.slice none n' c')).run Tryz.prog w = .ok (.bool a.isNone) w := fun w a n c n' c' => Lib.run_eql_slice_nil w _ _ a n c n' c' Tryz.underlying134
    have hc := h.cells rfl
    have hl := h.1
    have HC := ahid (And.intro hc (And.intro hl h1))
    clear hc hl h1 h hrest
    go_enter Tryz.func135, Tryz.ntmps135
    go_wp2_with (at_builtin; refine wpList_append_own _ rfl _ _ 134 rfl w.heap.size 150 i0 _ 1 8 Tryz.underlying134 hi hz0 hz1 hz2 rfl (by decide) (.slice (some ⟨w.heap.size, 0, none⟩) 0 0) _ _ rfl (World.ownsRow_made w #[] 0 (Nat.le_refl _) (Nat.zero_le _) (by simp)) ⟨g, 0, none⟩ n cap vs rfl HC.out.2.1 (fun j u hj => Lib.cell?_alloc_some _ (HC.out.1 j u hj)) HC.out.2.2 (by unfold maxLen; omega) (by omega) (by simp) ?_; intro v' w1 hown hgrow hnil; rw [Nat.zero_add, List.nil_append] at hown)
    go_wp2
    go_ret
    rcases hown.2 with ⟨h, _⟩ | ⟨g', cap', _, rfl, _⟩
    · exact absurd (hnil.1 h).1 (by simp)
    refine ⟨g', cap', rfl, hown, ?_⟩
    exact ((Below.refl _ w).alloc (Nat.le_refl _) _).grown hgrow (by simp) (by intro k hk; simp [Value.ownBlock] at hk; omega)
def CopyOk (w : World) (K : Nat → Prop) (L : List It) (M : List (List UInt8 × Int)) (e : Ending) (w' : World) : Prop :=
  ∃ p v m, e = .returned (.pointer (some ⟨p, 0, none⟩)) ∧ (∀ k, Own p v m k → w.heap.size ≤ k) ∧ AsmAt w' p v m (fun k => K k ∧ k < w.heap.size) L M ∧ Below w.heap.size w w'
set_option maxRecDepth 100000 in
theorem AsmAt.copy {w W : World} {m' : Nat} {v' : Value} {K : Nat → Prop} {L : List It} {M : List (List UInt8 × Int)} {vs : List Value} {D : DataW Unit} (hb : Below w.heap.size w W)
    (ho : W.ownsRow w.heap.size 150 1 v' L.length vs) (hlen : vs.length = L.length) (hvs : ∀ (i : Nat) (v : Value) (it : It), vs[i]? = some v → L[i]? = some it → CloAt w K v it)
    (hm : W.ownsMap Tryz.prog 9 (plainElem Tryz.prog 3) m' M.length D) (hD : MarkD D M) (hmz : w.heap.size ≤ m') :
    CopyOk w K L M (.returned (.pointer (some ⟨W.heap.size, 0, none⟩))) (W.alloc (.cells #[v', .map (some m')] 136)) := by
  have hml := hm.lt
  have hvl := ho.lt
  have hbs := hb.size
  have hb2 : Below w.heap.size w (W.alloc (.cells #[v', .map (some m')] 136)) := hb.alloc hbs _
  have hne : v'.ownBlock ≠ some m' := fun e => by
    rcases ho.2 with ⟨rfl, _⟩ | ⟨g, cap, cur, rfl, _, hc, _⟩
    · simp [Value.ownBlock] at e
    · obtain ⟨es, cl, hmb, _⟩ := hm
      simp only [Value.ownBlock, Option.some.injEq] at e
      subst e
      rw [hc] at hmb; cases hmb
  refine ⟨_, v', m', rfl, ?_, ⟨(MapKept.heap_alloc W _).1, ⟨vs, ⟨ho.1, ?_⟩, hlen, ?_⟩, ⟨D, hm.alloc _, hD⟩, ⟨by omega, fun e => by have := (hvl _ e).2; omega, hne⟩, ?_⟩, hb2⟩
  · rintro k (rfl | h | rfl)
    · exact hbs
    · exact (hvl k h).1
    · exact hmz
  · rcases (ho.alloc (.cells #[v', .map (some m')] 136)).2 with h | ⟨g, cap, cur, h1, _, h2⟩
    · exact .inl h
    · exact .inr ⟨g, cap, cur, h1, Nat.zero_le _, h2⟩
  · intro i v it hv hi
    exact (hvs i v it hv hi).keep (Only.of_below (S := fun _ => False) hb2) (fun _ _ h => h) (fun k hk h => ⟨h, hk⟩)
  · intro k hk
    exact ⟨by omega, fun e => by have := (hvl _ e).1; omega, by omega⟩
set_option maxRecDepth 100000 in
theorem acopy_none (w : World) (a : Value) (hn : Calls Tryz.prog 78 #[a] w fun e w' => e = .returned (.bool true) ∧ w = w') :
    Calls Tryz.prog 81 #[a] w fun e w' => e = .returned (.pointer none) ∧ w = w' := by
  go_enter Tryz.func81, Tryz.ntmps81
  go_wp2_with fail
  refine hn.mono ?_
  rintro e w' ⟨rfl, rfl⟩
  go_wp2_with fail
  go_ret
  exact ⟨rfl, rfl⟩
set_option maxRecDepth 100000 in
set_option maxHeartbeats 2000000 in
theorem acopy_any (w : World) (p m : Nat) (sv : Value) (K : Nat → Prop) (L : List It) (M : List (List UInt8 × Int)) (h : AsmAt w p sv m K L M) (hL : L.length < 4294967296) :
    Calls Tryz.prog 81 #[.pointer (some ⟨p, 0, none⟩)] w (CopyOk w K L M) := by
  obtain ⟨c0, c1, f0, f1⟩ := h.cells
  have HN := ahid (anone_made w p m c1)
  obtain ⟨hp, hm, hs⟩ := h.blocks
  obtain ⟨vs, hown, hlen, hvs⟩ := h.row
  obtain ⟨D, hmap, hD⟩ := h.marks
  have h1 : ∀ u ∈ vs, u.oneCell' = true := fun u hu => by
    obtain ⟨i, hi, he⟩ := List.mem_iff_getElem.1 hu
    have hc := hvs i u L[i] (by rw [List.getElem?_eq_getElem hi, he]) (List.getElem?_eq_getElem (by omega))
    cases hit : L[i] with
    | put x => rw [hit] at hc; obtain ⟨c, hc, _⟩ := hc; rw [hc]; simp [Value.oneCell']
    | far x nm => rw [hit] at hc; obtain ⟨c, d, hc, _⟩ := hc; rw [hc]; simp [Value.oneCell']
  have HS := ahid (fun W (hW : Below w.heap.size w W) => (aclone_any W sv L.length vs (hown.keepw (Only.of_below (S := fun _ => False) hW) (fun _ _ h => h)) h1 hL).mono (R' := fun e W' => ∃ g' cap', e = .returned (likeSl sv g' L.length cap') ∧ W'.ownsRow w.heap.size 150 1 (likeSl sv g' L.length cap') L.length vs ∧ W'.cell? ⟨p, 0, none⟩ = some sv ∧ W'.cell? ⟨p, 1, none⟩ = some (.map (some m)) ∧ Below w.heap.size w W' ∧ Below W.heap.size W W')
    fun e W' ⟨g', cap', he, ho, hb⟩ => by
      have hb2 := hW.trans (hb.mono hW.size)
      refine ⟨g', cap', he, ⟨ho.1, ?_⟩, ((acell hb2).1 _ _ hp).trans c0, ((acell hb2).1 _ _ hp).trans c1, hb2, hb⟩
      rcases ho.2 with h | ⟨g, cap, cur, e1, e2, e3⟩
      · exact .inl h
      · exact .inr ⟨g, cap, cur, e1, Nat.le_trans hW.size e2, e3⟩)
  have HM := ahid (fun W (hW : Below w.heap.size w W) => (mclone_any W m M.length D (by
    obtain ⟨es, cl, hb, F, hz, hDD⟩ := hmap
    exact ⟨es, cl, (hW.block m (lt_of_block hb)).trans hb, F, hz, hDD⟩)).mono (R' := fun e W' => ∃ m', e = .returned (.map (some m')) ∧ w.heap.size ≤ m' ∧ W'.ownsMap Tryz.prog 9 (plainElem Tryz.prog 3) m' M.length D ∧ W'.cell? ⟨p, 0, none⟩ = some sv ∧ W'.cell? ⟨p, 1, none⟩ = some (.map (some m)) ∧ Below w.heap.size w W' ∧ Below W.heap.size W W')
    fun e W' ⟨he, ho, hb⟩ => by
      have hb2 := hW.trans (hb.mono hW.size)
      exact ⟨_, he, hW.size, ho, ((acell hb2).1 _ _ hp).trans c0, ((acell hb2).1 _ _ hp).trans c1, hb2, hb⟩)
  have HV := ahid (And.intro hlen (And.intro hvs hD))
  have hsl := h.slice
  clear h f0 f1 hs hown hlen hvs hmap hD h1 hm
  rcases hsl with ⟨rfl, _⟩ | ⟨gs, caps, rfl, _, _⟩
  · simp only [likeSl] at HS
    go_enter Tryz.func81, Tryz.ntmps81
    go_wp2_with fail
    refine HN.out.mono ?_
    rintro e w' ⟨rfl, rfl⟩
    go_wp2_with fail
    have hb0 := Below.refl w.heap.size w
    go_region_held3 (fun w' => w'.cell? ⟨p, 0, none⟩ = some (.slice none 0 0) ∧ w'.cell? ⟨p, 1, none⟩ = some (.map (some m)) ∧ Below w.heap.size w w') (first | exact ⟨c0, c1, hb0.drew⟩ | exact ⟨c0, c1, hb0⟩ | exact ⟨k0, k1, kb⟩ | exact ⟨l0, l1, lb⟩ | exact ⟨Lib.cell?_alloc_some _ l0, Lib.cell?_alloc_some _ l1, lb.alloc lb.size _⟩ | exact hb0.drew | exact kb | exact lb | (go_keep; done))
      (first
      | (go_at_call 135; refine (HS.out _ ?hb).mono ?_; (case hb => first | exact hb0 | exact hb0.drew | assumption | go_grown); rintro e W1 ⟨g1, cap1, rfl, ho1, k0, k1, kb, kk⟩)
      | (go_at_call 136; refine (HM.out _ ?hb).mono ?_; (case hb => first | exact hb0 | exact hb0.drew | assumption | go_grown); rintro e W2 ⟨m2, rfl, hm2, ho2, l0, l1, lb, ll⟩))
    go_wp2_with fail
    go_ret
    exact AsmAt.copy lb (ho1.kept_below ll kb.size) HV.out.1 HV.out.2.1 ho2 HV.out.2.2 hm2
  · simp only [likeSl] at HS
    go_enter Tryz.func81, Tryz.ntmps81
    go_wp2_with fail
    refine HN.out.mono ?_
    rintro e w' ⟨rfl, rfl⟩
    go_wp2_with fail
    have hb0 := Below.refl w.heap.size w
    go_region_held3 (fun w' => w'.cell? ⟨p, 0, none⟩ = some (.slice (some ⟨gs, 0, none⟩) L.length caps) ∧ w'.cell? ⟨p, 1, none⟩ = some (.map (some m)) ∧ Below w.heap.size w w') (first | exact ⟨c0, c1, hb0.drew⟩ | exact ⟨c0, c1, hb0⟩ | exact ⟨k0, k1, kb⟩ | exact ⟨l0, l1, lb⟩ | exact ⟨Lib.cell?_alloc_some _ l0, Lib.cell?_alloc_some _ l1, lb.alloc lb.size _⟩ | exact hb0.drew | exact kb | exact lb | (go_keep; done))
      (first
      | (go_at_call 135; refine (HS.out _ ?hb).mono ?_; (case hb => first | exact hb0 | exact hb0.drew | assumption | go_grown); rintro e W1 ⟨g1, cap1, rfl, ho1, k0, k1, kb, kk⟩)
      | (go_at_call 136; refine (HM.out _ ?hb).mono ?_; (case hb => first | exact hb0 | exact hb0.drew | assumption | go_grown); rintro e W2 ⟨m2, rfl, hm2, ho2, l0, l1, lb, ll⟩))
    go_wp2_with fail
    go_ret
    exact AsmAt.copy lb (ho1.kept_below ll kb.size) HV.out.1 HV.out.2.1 ho2 HV.out.2.2 hm2
end Go.Proofs.YtajholbcpmjhiaaGreatDoor
/- append at a step of a region that draws its order: from nil; onto a slice of one's own that is not nil. No function of the program is walked here. -/
namespace Go.Proofs.YtajholbcpmjhiaaGreatDoor
open Go
variable {P : Program} (w : World)
theorem step_append_none {ops : Array Oper} {o : Oper} {a : Act} {K : Act → World → Prop} {Q : Exit → Act → World → Prop} {E : Prop} (hgd : o.guard = none) (s x : Operand) (t : TypeId)
    (ho : o.op = .call { callee := .builtin .append, args := #[s, x], argTypes := #[t, t] })
    (base : Nat) (e : TypeId) (i : TypeInfo) (size : Nat) (ht : P.underlying t = some (.slice e)) (hi : P.info? e = some i)
    (v : Value) (n : Nat) (xs : List Value) (hs : a.eval s = v) (hown : w.ownsRow base e size v n xs) (hx : a.eval x = .slice none 0 0) (h : K (a.put o.dst v) w) :
    if Region.wanted o (yielded ops a.tmps) = true then Oper.wp P o a w K Q else E := by
  have hw : Region.wanted o (yielded ops a.tmps) = true := by simp [Region.wanted, hgd]
  rw [if_pos hw]
  have hrun := run_append_owned_none (P := P) (w := w) base t o.type e i size ht hi v n xs hown
  unfold Oper.wp execOp
  simp only [ho, resolve, invoke, builtin, Sem.run_bind, Sem.run_pure, Result.andThen_ok, List.map_toArray, List.map_cons, List.map_nil, hs, hx, hrun]
  exact h
theorem run_append_some (t ty : TypeId) (base : Nat) (e : TypeId) (i : TypeInfo) (z : Value) (size bytes : Nat) (ht : P.underlying t = some (.slice e)) (hi : P.info? e = some i) (hz : i.zero = some z)
    (hsize : i.size = size) (hby : i.bytes = bytes) (hzs : z.cells.size = size) (hsz : 0 < size)
    (g0 n c0 : Nat) (xs : List Value) (hown : w.ownsRow base e size (.slice (some ⟨g0, 0, none⟩) n c0) n xs)
    (ad : Addr) (m c : Nat) (news : List Value) (hl : news.length = m * size) (hnews : ∀ j u, news[j]? = some u → w.cell? (ad.add j) = some u) (h1 : ∀ u ∈ news, u.oneCell' = true)
    (h63 : n + m ≤ maxLen) (hbytes : (n + m) * bytes ≤ 140737488355328) (hbase : base ≤ w.heap.size) :
    ∃ g cap w', (Builtin.append_ #[t, t] ty #[.slice (some ⟨g0, 0, none⟩) n c0, .slice (some ad) m c]).run P w = .ok (.slice (some ⟨g, 0, none⟩) (n + m) cap) w' ∧
      w'.ownsRow base e size (.slice (some ⟨g, 0, none⟩) (n + m) cap) (n + m) (xs ++ news) ∧ w.grownBy w' (some g0) := by
  obtain ⟨v', w', hr, h2, h3, h4⟩ := run_append_own (P := P) w base t ty e i z size bytes ht hi hz hsize hby hzs hsz _ n xs hown ad m c news hl hnews h1 h63 hbytes hbase
  rcases h2.2 with ⟨rfl, _⟩ | ⟨g, cap, cur, rfl, _⟩
  · exact absurd (h4.1 rfl).1 (by simp)
  · exact ⟨g, cap, w', hr, h2, h3⟩
theorem step_append_some {ops : Array Oper} {o : Oper} {a : Act} {K : Act → World → Prop} {Q : Exit → Act → World → Prop} {E : Prop} (hgd : o.guard = none) (s x : Operand) (t : TypeId)
    (ho : o.op = .call { callee := .builtin .append, args := #[s, x], argTypes := #[t, t] })
    (base : Nat) (e : TypeId) (i : TypeInfo) (z : Value) (size bytes : Nat) (ht : P.underlying t = some (.slice e)) (hi : P.info? e = some i) (hz : i.zero = some z)
    (hsize : i.size = size) (hby : i.bytes = bytes) (hzs : z.cells.size = size) (hsz : 0 < size)
    (g0 n c0 : Nat) (xs : List Value) (hs : a.eval s = .slice (some ⟨g0, 0, none⟩) n c0) (hown : w.ownsRow base e size (.slice (some ⟨g0, 0, none⟩) n c0) n xs)
    (ad : Addr) (m c : Nat) (news : List Value) (hx : a.eval x = .slice (some ad) m c) (hl : news.length = m * size) (hnews : ∀ j u, news[j]? = some u → w.cell? (ad.add j) = some u) (h1 : ∀ u ∈ news, u.oneCell' = true)
    (h63 : n + m ≤ maxLen) (hbytes : (n + m) * bytes ≤ 140737488355328) (hbase : base ≤ w.heap.size)
    (h : ∀ g cap w', w'.ownsRow base e size (.slice (some ⟨g, 0, none⟩) (n + m) cap) (n + m) (xs ++ news) → w.grownBy w' (some g0) → K (a.put o.dst (.slice (some ⟨g, 0, none⟩) (n + m) cap)) w') :
    if Region.wanted o (yielded ops a.tmps) = true then Oper.wp P o a w K Q else E := by
  have hw : Region.wanted o (yielded ops a.tmps) = true := by simp [Region.wanted, hgd]
  rw [if_pos hw]
  obtain ⟨g, cap, w', hrun, h2, h3⟩ := run_append_some (P := P) w t o.type base e i z size bytes ht hi hz hsize hby hzs hsz g0 n c0 xs hown ad m c news hl hnews h1 h63 hbytes hbase
  unfold Oper.wp execOp
  simp only [ho, resolve, invoke, builtin, Sem.run_bind, Sem.run_pure, Result.andThen_ok, List.map_toArray, List.map_cons, List.map_nil, hs, hx, hrun]
  exact h g cap w' h2 h3
end Go.Proofs.YtajholbcpmjhiaaGreatDoor
/- Acts on a list: what they leave; the program's acts as one step each. -/
namespace Go.Proofs.YtajholbcpmjhiaaGreatDoor
open Go.RowKit Go.Maps
def StepTo (w : World) (p : Nat) (sv : Value) (m : Nat) (K : Nat → Prop) (L' : List It) (M' : List (List UInt8 × Int)) (w' : World) : Prop :=
  ∃ v' K', AsmAt w' p v' m K' L' M' ∧ Only (Own p sv m) w w' ∧ (∀ k, k < w.heap.size → Own p v' m k → Own p sv m k) ∧ (∀ k, k < w.heap.size → K' k → K k)
theorem StepTo.same {w w' : World} {p m : Nat} {sv : Value} {K : Nat → Prop} {L : List It} {M : List (List UInt8 × Int)} (h : AsmAt w p sv m K L M) (hb : Below w.heap.size w w') : StepTo w p sv m K L M w' :=
  ⟨sv, K, h.keep (Only.of_below (S := fun _ => False) hb) (fun _ _ h => h) (fun _ _ h => h), Only.of_below hb, fun _ _ h => h, fun _ _ h => h⟩
def putE (l : List Ix) : Int := if ∀ x ∈ l, mayP x then 0 else 2
def putL (L : List It) (l : List Ix) : List It := if ∀ x ∈ l, mayP x then L ++ l.map .put else L
theorem put_step {w w' : World} {p m : Nat} {sv : Value} {K : Nat → Prop} {L : List It} {M : List (List UInt8 × Int)} {l : List Ix} {e : Ending} (h : AsmAt w p sv m K L M) (hp : PutOk w p sv m K L M l e w') : e = .returned (.int .i64 (putE l)) ∧ StepTo w p sv m K (putL L l) M w' := by
  unfold PutOk at hp
  unfold putE putL
  by_cases hm : ∀ x ∈ l, mayP x
  · rw [if_pos hm] at hp ⊢
    rw [if_pos hm]
    exact hp
  · rw [if_neg hm] at hp ⊢
    rw [if_neg hm]
    exact ⟨hp.1, StepTo.same h hp.2⟩
end Go.Proofs.YtajholbcpmjhiaaGreatDoor
/- The walks of muntinlaw07.same and great. -/
namespace Go.Proofs.YtajholbcpmjhiaaGreatDoor
open Go.RowKit Go.Maps
theorem abt {a b c : World} (h : Below a.heap.size a b) (k : Below b.heap.size b c) : Below a.heap.size a c := h.trans (k.mono h.size)
end Go.Proofs.YtajholbcpmjhiaaGreatDoor
/- The walk of muntinlaw07.head: lists whose words the document fixes; three lists side by side. -/
namespace Go.Proofs.YtajholbcpmjhiaaGreatDoor
open Go.RowKit Go.Maps
structure Lst (w0 : Nat) (w : World) (p : Nat) (S : Nat → Prop) (L : List It) (M : List (List UInt8 × Int)) : Prop where
  ex : ∃ sv m K, AsmAt w p sv m K L M ∧ (∀ k, Own p sv m k → S k) ∧ (∀ k, K k → S k)
  lo : ∀ k, S k → w0 ≤ k ∧ k < w.heap.size
theorem AsmAt.ownlt {w : World} {p m : Nat} {sv : Value} {K : Nat → Prop} {L : List It} {M : List (List UInt8 × Int)} (h : AsmAt w p sv m K L M) : ∀ k, Own p sv m k → k < w.heap.size := by
  have hbl := h.blocks
  rintro k (rfl | h | rfl)
  · exact hbl.1
  · exact hbl.2.2 k h
  · exact hbl.2.1
theorem Lst.keep {w0 : Nat} {w w2 : World} {p : Nat} {S T : Nat → Prop} {L : List It} {M : List (List UInt8 × Int)} (h : Lst w0 w p T L M) (o : Only S w w2) (hd : ∀ k, T k → ¬ S k) : Lst w0 w2 p T L M := by
  obtain ⟨⟨sv, m, K, hA, hO, hK⟩, hlo⟩ := h
  exact ⟨⟨sv, m, K, hA.keep o (fun k hk => hd k (hO k hk)) (fun k hk => hd k (hK k hk)), hO, hK⟩, fun k hk => ⟨(hlo k hk).1, Nat.lt_of_lt_of_le (hlo k hk).2 o.size⟩⟩
theorem Lst.keepb {w0 : Nat} {w w2 : World} {p : Nat} {T : Nat → Prop} {L : List It} {M : List (List UInt8 × Int)} (h : Lst w0 w p T L M) (hb : Below w.heap.size w w2) : Lst w0 w2 p T L M := h.keep (Only.of_below (S := fun _ => False) hb) (fun _ _ h => h)
theorem Lst.to {w0 : Nat} {w w2 : World} {p : Nat} {S : Nat → Prop} {L L' : List It} {M M' : List (List UInt8 × Int)} {sv : Value} {m : Nat} {K : Nat → Prop} (h : Lst w0 w p S L M) (hw : w0 ≤ w.heap.size) (hO : ∀ k, Own p sv m k → S k) (hK : ∀ k, K k → S k) (hst : StepTo w p sv m K L' M' w2) :
    ∃ S', Lst w0 w2 p S' L' M' ∧ Only S w w2 ∧ (∀ k, S' k → S k ∨ w.heap.size ≤ k) := by
  obtain ⟨v', K', g1, g2, g3, g4⟩ := hst
  refine ⟨fun k => (Own p v' m k ∨ K' k) ∧ k < w2.heap.size, ⟨⟨v', m, _, g1.trim, fun k hk => ⟨.inl hk, g1.ownlt k hk⟩, fun k hk => ⟨.inr hk.1, hk.2⟩⟩, ?_⟩, g2.mono (fun k _ hk => hO k hk), ?_⟩
  · intro k hk
    refine ⟨?_, hk.2⟩
    rcases Nat.lt_or_ge k w.heap.size with hl | hl
    · rcases hk.1 with h1 | h1
      · exact (h.lo k (hO k (g3 k hl h1))).1
      · exact (h.lo k (hK k (g4 k hl h1))).1
    · omega
  · intro k hk
    rcases Nat.lt_or_ge k w.heap.size with hl | hl
    · rcases hk.1 with h1 | h1
      · exact .inl (hO k (g3 k hl h1))
      · exact .inl (hK k (g4 k hl h1))
    · exact .inr hl
theorem Only.lower {S : Nat → Prop} {w0 w w2 : World} (hb : Below w0.heap.size w0 w) (o : Only S w w2) (hs : ∀ k, S k → w0.heap.size ≤ k) : Below w0.heap.size w0 w2 :=
  hb.trans (o.below hb.size (fun k hk hh => by have := hs k hh; omega))
theorem new_lst (w0 w : World) (hb : Below w0.heap.size w0 w) : Calls Tryz.prog 28 #[] w fun e w' => ∃ p S, e = .returned (.pointer (some ⟨p, 0, none⟩)) ∧ Lst w0.heap.size w' p S [] [] ∧ (∀ k, S k → w.heap.size ≤ k) ∧ Below w.heap.size w w' := by
  refine (anew_any w).mono ?_
  rintro e w' ⟨p, m, rfl, hp, hm, hA, hB⟩
  have h1 := hb.size
  have h2 := hB.size
  refine ⟨p, fun k => Own p (.slice none 0 0) m k, rfl, ⟨⟨_, m, _, hA, fun k h => h, fun k h => h.elim⟩, fun k hk => ⟨?_, hA.ownlt k hk⟩⟩, ?_, hB⟩
  · rcases hk with rfl | h | rfl
    · omega
    · simp [Value.ownBlock] at h
    · omega
  · rintro k (rfl | h | rfl)
    · exact hp
    · simp [Value.ownBlock] at h
    · exact hm
structure TabLo (w0 : Nat) (w : World) : Prop where
  tab : Tab w
  lo : 0 < w0
theorem TabLo.start {w0 w : World} (h : Tab w0) (hb : Below w0.heap.size w0 w) : TabLo w0.heap.size w := ⟨h.keep hb, World.block_lt_of_cell? _ _ (h 0 (by omega))⟩
theorem TabLo.keepO {w0 : Nat} {S : Nat → Prop} {w w2 : World} (h : TabLo w0 w) (o : Only S w w2) (hs : ∀ k, S k → w0 ≤ k) : TabLo w0 w2 :=
  ⟨fun i hi => (o.cell (p := ⟨0, i, none⟩) (World.block_lt_of_cell? _ _ (h.tab i hi)) (fun hk => by have h1 : w0 ≤ 0 := hs _ hk; have := h.lo; omega)).trans (h.tab i hi), h.lo⟩
theorem TabLo.keepb {w0 : Nat} {w w2 : World} (h : TabLo w0 w) (hb : Below w.heap.size w w2) : TabLo w0 w2 := ⟨h.tab.keep hb, h.lo⟩
end Go.Proofs.YtajholbcpmjhiaaGreatDoor
