/- Several texts in one: InstREnc, MachSmall, MachMade, MachPsr, Ref3Law, WindMadeLaw, WindTurn, WindRunsLaw. -/
import Derived.Test.YtajholbcpmjhiaaGreatDoorH22
import Derived.Test.YtajholbcpmjhiaaGreatDoorH23
import Derived.Test.YtajholbcpmjhiaaGreatDoorH24
import Derived.Test.YtajholbcpmjhiaaGreatDoorH11
set_option linter.unusedVariables false
set_option linter.unusedSimpArgs false
/- Walks of the document's May and Encode (muntinref02). -/
namespace Go.Proofs.YtajholbcpmjhiaaGreatDoor
open Go.RowKit
set_option maxRecDepth 100000 in
set_option maxHeartbeats 1000000 in
theorem rmay_zero (x : Ix) (hb : x.bd) (hk : kindS x.op = 0) (w : World) :
    Calls Tryz.prog 60 #[x.agg] w fun e w' => e = .returned (.bool (mayB x)) ∧ Below w.heap.size w w' := by
  have E := ihid (may_out (.inr (.inr (.inr (.inl hk)))))
  obtain ⟨op, rd, rs1, rs2, is, imm⟩ := x
  have b0 := hb.1
  simp only at b0 hk
  have HK := ihid hk
  clear hk hb
  go_enter Tryz.func60, Tryz.ntmps60
  go_wp2_with fail
  refine (rkind_any op 0 b0.1 HK.out _).mono ?_
  rintro e w' ⟨rfl, rfl⟩
  go_wp2_with fail
  go_ret
  exact ⟨iretb E.out.symm, (Below.refl _ _).alloc (Nat.le_refl _) _⟩
theorem rmay_any (x : Ix) (hb : x.bd) (w : World) :
    Calls Tryz.prog 60 #[x.agg] w fun e w' => e = .returned (.bool (mayB x)) ∧ Below w.heap.size w w' := by
  by_cases h0 : kindS x.op = 0
  · exact rmay_zero x hb h0 w
  · by_cases ho : x.rd ≤ 31 ∧ x.rs1 ≤ 31 ∧ x.rs2 ≤ 31 ∧ (x.is = true → x.rs2 = 0) ∧ (x.is = false → x.imm = 0)
    · obtain ⟨h1, h2, h3, h4, h5⟩ := ho
      obtain ⟨op, rd, rs1, rs2, is, imm⟩ := x
      simp only at h1 h2 h3 h4 h5
      rcases kind_cases op with hk | hk | hk | hk | hk | hk | hk | hk | hk | hk | hk | hk | hk
      · exact absurd hk h0
      · cases is
        · exact rmay_1f _ _ _ _ _ hb hk h1 h2 h3 (h5 rfl) w
        · exact rmay_1t _ _ _ _ _ hb hk h1 h2 h3 (h4 rfl) w
      · cases is
        · exact rmay_2f _ _ _ _ _ hb hk h1 h2 h3 (h5 rfl) w
        · exact rmay_2t _ _ _ _ _ hb hk h1 h2 h3 (h4 rfl) w
      · cases is
        · exact rmay_3f _ _ _ _ _ hb hk h1 h2 h3 (h5 rfl) w
        · exact rmay_3t _ _ _ _ _ hb hk h1 h2 h3 (h4 rfl) w
      · cases is
        · exact rmay_4f _ _ _ _ _ hb hk h1 h2 h3 (h5 rfl) w
        · by_cases h6 : rd ≤ 6
          · exact rmay_4ty _ _ _ _ _ hb hk h1 h2 h3 (h4 rfl) h6 w
          · exact rmay_4tn _ _ _ _ _ hb hk h1 h2 h3 (h4 rfl) (by omega) w
      · cases is
        · exact rmay_5f _ _ _ _ _ hb hk h1 h2 h3 (h5 rfl) w
        · exact rmay_5t _ _ _ _ _ hb hk h1 h2 h3 (h4 rfl) w
      · cases is
        · exact rmay_6f _ _ _ _ _ hb hk h1 h2 h3 (h5 rfl) w
        · exact rmay_6t _ _ _ _ _ hb hk h1 h2 h3 (h4 rfl) w
      · cases is
        · exact rmay_7f _ _ _ _ _ hb hk h1 h2 h3 (h5 rfl) w
        · exact rmay_7t _ _ _ _ _ hb hk h1 h2 h3 (h4 rfl) w
      · cases is
        · exact rmay_8f _ _ _ _ _ hb hk h1 h2 h3 (h5 rfl) w
        · exact rmay_8t _ _ _ _ _ hb hk h1 h2 h3 (h4 rfl) w
      · cases is
        · exact rmay_9f _ _ _ _ _ hb hk h1 h2 h3 (h5 rfl) w
        · exact rmay_9t _ _ _ _ _ hb hk h1 h2 h3 (h4 rfl) w
      · cases is
        · exact rmay_10f _ _ _ _ _ hb hk h1 h2 h3 (h5 rfl) w
        · exact rmay_10t _ _ _ _ _ hb hk h1 h2 h3 (h4 rfl) w
      · cases is
        · exact rmay_11f _ _ _ _ _ hb hk h1 h2 h3 (h5 rfl) w
        · exact rmay_11t _ _ _ _ _ hb hk h1 h2 h3 (h4 rfl) w
      · cases is
        · exact rmay_12f _ _ _ _ _ hb hk h1 h2 h3 (h5 rfl) w
        · exact rmay_12t _ _ _ _ _ hb hk h1 h2 h3 (h4 rfl) w
    · exact rmay_out x hb h0 ho w
set_option maxHeartbeats 400000 in
theorem rlow_any (n of : Int) (hof : of = 2097152 ∨ of = 32768) (h0 : -2147483648 ≤ n) (h1 : n < 2147483648) (w : World) : Calls Tryz.prog 62 #[.int .i32 n, .int .i64 of] w fun e w' => e = .returned (.int .u32 (n % of)) ∧ w = w' := by
  have hm : 0 ≤ n.tmod of ∧ n.tmod of = n % of ∨ n.tmod of < 0 ∧ n.tmod of + of = n % of := by
    rw [Int.tmod_eq_emod]
    have hd : of ∣ n ↔ n % of = 0 := Int.dvd_iff_emod_eq_zero
    have : 0 ≤ n % of ∧ n % of < of := by rcases hof with rfl | rfl <;> omega
    have ho : (of.natAbs : Int) = of := by rcases hof with rfl | rfl <;> rfl
    split <;> rename_i h
    · left; omega
    · have hh : ¬ (0 ≤ n ∨ n % of = 0) := fun h2 => h (h2.imp id hd.2)
      right; omega
  have hr : 0 ≤ n % of ∧ n % of < of := by rcases hof with rfl | rfl <;> omega
  have ht : -4294967296 < n.tmod of ∧ n.tmod of < 4294967296 := by rcases hof with rfl | rfl <;> omega
  have ho : 0 < of ∧ of < 4294967296 := by rcases hof with rfl | rfl <;> omega
  have h00 : (of == 0) = false := by rcases hof with rfl | rfl <;> rfl
  have hw : IntKind.i64.wrap (n.tmod of) = n.tmod of := IntWalk.i64_in _ (by omega)
  have hw3 : wrap64 (n.tmod of) = n.tmod of := by rw [IntWalk.wrap64_in _ (by omega)]
  have HM := ihid hm
  have HR := ihid hr
  clear hm hr hof
  by_cases hs : n.tmod of < 0
  · have hs2 : decide (n.tmod of < 0) = true := by simpa using hs
    have HE : n.tmod of + of = n % of := by have := HM.out; omega
    have hb : 0 ≤ n.tmod of + of ∧ n.tmod of + of < 4294967296 := by have := HR.out; omega
    have hw5 : wrap64 (n.tmod of + of) = n.tmod of + of := by rw [IntWalk.wrap64_in _ (by omega)]
    have hw6 : (n.tmod of + of) % 4294967296 = n.tmod of + of := Int.emod_eq_of_lt hb.1 hb.2
    replace HE := ihid HE
    go_enter Tryz.func62, Tryz.ntmps62
    go_wp2
    go_ret
    exact ⟨iret (by first | exact HE.out | (rw [hw5, hw6]; exact HE.out)), rfl⟩
  · have hs2 : decide (n.tmod of < 0) = false := by simpa using hs
    have HE : n.tmod of = n % of := by have := HM.out; omega
    have hb : 0 ≤ n.tmod of ∧ n.tmod of < 4294967296 := by omega
    replace HE := ihid HE
    go_enter Tryz.func62, Tryz.ntmps62
    go_wp2
    go_ret
    exact ⟨iret HE.out, rfl⟩
set_option maxRecDepth 100000 in
set_option maxHeartbeats 1000000 in
theorem renc_any (x : Ix) (hb : x.bd) (w : World) :
    Calls Tryz.prog 15 #[x.agg] w fun e w' => e = .returned (.tuple #[.int .u32 (encS x), .int .i64 (encE x)]) ∧ Below w.heap.size w w' := by
  have hm := rmay_any x hb (w.alloc (.cells #[.int .u8 x.op, .int .u8 x.rd, .int .u8 x.rs1, .int .u8 x.rs2, .bool x.is, .int .i32 x.imm] 41))
  unfold encS encE
  by_cases h : mayP x
  · rw [if_pos h, if_pos h]
    rw [show mayB x = true from decide_eq_true h] at hm
    have HM := ihid hm
    have B := may_bd hb h
    have HP := ihid h
    obtain ⟨op, rd, rs1, rs2, is, imm⟩ := x
    obtain ⟨b0, b1, b2, b3, b4⟩ := hb
    simp only at b0 b1 b2 b3 b4 B
    have hl1 := rlow_any imm 2097152 (.inl rfl) b4.1 b4.2
    have hl2 := rlow_any imm 32768 (.inr rfl) b4.1 b4.2
    have HL1 := ihid hl1
    have HL2 := ihid hl2
    have hk := fun W => rkind_any op (kindS op) b0.1 rfl W
    have HK := ihid hk
    have c1 : 0 ≤ imm % 2097152 ∧ imm % 2097152 < 2097152 := by omega
    have c2 : 0 ≤ imm % 32768 ∧ imm % 32768 < 32768 := by omega
    clear hm h hl1 hl2 hk
    have hnext : ∀ w' : World, Below (w.alloc (.cells #[.int .u8 op, .int .u8 rd, .int .u8 rs1, .int .u8 rs2, .bool is, .int .i32 imm] 41)).heap.size (w.alloc (.cells #[.int .u8 op, .int .u8 rd, .int .u8 rs1, .int .u8 rs2, .bool is, .int .i32 imm] 41)) w' →
        w'.cell? ⟨w.heap.size, 0, none⟩ = some (.int .u8 op) ∧ w'.cell? ⟨w.heap.size, 1, none⟩ = some (.int .u8 rd) ∧ w'.cell? ⟨w.heap.size, 2, none⟩ = some (.int .u8 rs1) ∧ w'.cell? ⟨w.heap.size, 3, none⟩ = some (.int .u8 rs2) ∧ w'.cell? ⟨w.heap.size, 4, none⟩ = some (.bool is) ∧ w'.cell? ⟨w.heap.size, 5, none⟩ = some (.int .i32 imm) ∧ Below w.heap.size w w' := by
      intro w' hbl
      refine ⟨?_, ?_, ?_, ?_, ?_, ?_, ((Below.refl _ _).alloc (Nat.le_refl _) _).trans (hbl.mono (by simp))⟩
      · exact (hbl.cell (p := ⟨w.heap.size, 0, none⟩) (by simp)).trans (by simp)
      · exact (hbl.cell (p := ⟨w.heap.size, 1, none⟩) (by simp)).trans (by simp)
      · exact (hbl.cell (p := ⟨w.heap.size, 2, none⟩) (by simp)).trans (by simp)
      · exact (hbl.cell (p := ⟨w.heap.size, 3, none⟩) (by simp)).trans (by simp)
      · exact (hbl.cell (p := ⟨w.heap.size, 4, none⟩) (by simp)).trans (by simp)
      · exact (hbl.cell (p := ⟨w.heap.size, 5, none⟩) (by simp)).trans (by simp)
    have HN := ihid hnext
    clear hnext
    by_cases hl : longK (kindS op)
    · have hk1 : decide (3 ≤ kindS op) = true := by rcases hl with h | h | h <;> rw [h] <;> rfl
      have hk2 : decide (kindS op ≤ 5) = true := by rcases hl with h | h | h <;> rw [h] <;> rfl
      have E := ihid (show wordS ⟨op, rd, rs1, rs2, is, imm⟩ = op * 67108864 + rd * 2097152 + imm % 2097152 by unfold wordS tailS; rw [if_pos hl])
      clear hl
      generalize kindS op = q at hk1 hk2 HK
      go_enter Tryz.func15, Tryz.ntmps15
      go_wp2_with fail
      refine HM.out.mono ?_
      rintro e w' ⟨rfl, hbl⟩
      obtain ⟨x0, x1, x2, x3, x4, x5, xb⟩ := HN.out w' hbl
      have XB := ihid xb
      clear hbl xb
      go_wp2_with fail
      refine (HK.out _).mono ?_
      rintro e w'' ⟨rfl, rfl⟩
      go_wp2_with fail
      refine (HL1.out _).mono ?_
      rintro e w'' ⟨rfl, rfl⟩
      go_wp2_with fail
      go_ret2
      exact ⟨iret2 E.out.symm rfl, XB.out⟩
    · have hkd : (decide (3 ≤ kindS op) && decide (kindS op ≤ 5)) = false := by
        unfold longK at hl; simp; omega
      have hks : decide (3 ≤ kindS op) = false ∨ decide (3 ≤ kindS op) = true ∧ decide (kindS op ≤ 5) = false := by
        simp at hkd ⊢; omega
      have E1 := ihid (show wordS ⟨op, rd, rs1, rs2, true, imm⟩ = op * 67108864 + rd * 2097152 + rs1 * 65536 + 32768 + imm % 32768 by unfold wordS tailS; rw [if_neg hl]; simp; omega)
      have E2 := ihid (show wordS ⟨op, rd, rs1, rs2, false, imm⟩ = op * 67108864 + rd * 2097152 + rs1 * 65536 + rs2 by unfold wordS tailS; rw [if_neg hl]; simp; omega)
      clear hl hkd
      generalize kindS op = q at hks HK
      rcases hks with hk1 | ⟨hk1, hk2⟩ <;> cases is
      all_goals
        go_enter Tryz.func15, Tryz.ntmps15
        go_wp2_with fail
        refine HM.out.mono ?_
        rintro e w' ⟨rfl, hbl⟩
        obtain ⟨x0, x1, x2, x3, x4, x5, xb⟩ := HN.out w' hbl
        have XB := ihid xb
        clear hbl xb
        go_wp2_with fail
        refine (HK.out _).mono ?_
        rintro e w'' ⟨rfl, rfl⟩
        go_wp2_with (go_at_call 62; refine (HL2.out _).mono ?_; rintro e w'' ⟨rfl, rfl⟩)
        go_ret2
        first | exact ⟨iret2 E1.out.symm rfl, XB.out⟩ | exact ⟨iret2 E2.out.symm rfl, XB.out⟩
  · rw [if_neg h, if_neg h]
    rw [show mayB x = false from decide_eq_false h] at hm
    have HM := ihid hm
    clear hm h hb
    obtain ⟨op, rd, rs1, rs2, is, imm⟩ := x
    go_enter Tryz.func15, Tryz.ntmps15
    go_wp2_with fail
    refine HM.out.mono ?_
    rintro e w' ⟨rfl, hbl⟩
    have HB := ihid hbl
    clear hbl
    go_wp2_with fail
    go_ret2
    exact ⟨rfl, ((Below.refl _ _).alloc (Nat.le_refl _) _).trans (HB.out.mono (by simp))⟩
end Go.Proofs.YtajholbcpmjhiaaGreatDoor
/- The walks of muntinlaw06.word and small. -/
namespace Go.Proofs.YtajholbcpmjhiaaGreatDoor
open Go.RowKit
theorem encS_bd {x : Ix} (hb : x.bd) : 0 ≤ encS x ∧ encS x < 4294967296 := by
  unfold encS
  split
  · rename_i h; have := word_bd hb h; omega
  · omega
end Go.Proofs.YtajholbcpmjhiaaGreatDoor
/- The walks of mach.Load, Choose, SetPsr. -/
namespace Go.Proofs.YtajholbcpmjhiaaGreatDoor
open Go.RowKit
theorem putV_len (d : List Int) (a : Int) (l : List Int) : (putV d a l).length = d.length := by
  unfold putV
  split
  · exact putS_len l d _
  · rfl
theorem ch_of_own {w W : World} {base : Nat} {v : Value} {l : List Int} (h : w.ownsRow base 24 1 v l.length (u32s l)) (hW : ∀ k, v.ownBlock = some k → W.heap[k]? = w.heap[k]?) : MChAt W v l := by
  have hw : W.ownsRow base 24 1 v l.length (u32s l) := by
    rcases h.2 with ⟨h1, h2⟩ | ⟨g, cap, cur, h1, h2, h3, h4⟩
    · exact ⟨h.1, .inl ⟨h1, h2⟩⟩
    · exact ⟨h.1, .inr ⟨g, cap, cur, h1, h2, (hW g (by rw [h1]; rfl)).trans h3, h4⟩⟩
  refine ⟨Reads32.of_own hw, fun p n c e => ?_⟩
  rcases hw.2 with ⟨h1, h2⟩ | ⟨g, cap, cur, h1, h2, h3, h4, h5, h6, h7⟩
  · rw [h1] at e; cases e; exact ⟨Nat.le_refl _, fun _ => rfl⟩
  · rw [h1] at e; cases e; exact ⟨h4, fun e => by cases e⟩
theorem own_range {w : World} {base : Nat} {v : Value} {t : TypeId} {n : Nat} {l : List Value} (h : w.ownsRow base t 1 v n l) : ∀ k, v.ownBlock = some k → base ≤ k ∧ k < w.heap.size := by
  intro k hk
  rcases h.2 with ⟨h1, h2⟩ | ⟨g, cap, cur, h1, h2, h3, h4⟩
  · rw [h1] at hk; cases hk
  · rw [h1] at hk; cases hk
    exact ⟨h2, (Array.getElem?_eq_some_iff.1 h3).1⟩
theorem MachAt.choose {w w1 : World} {G : MG} {M : Nat} {m : Mx} {v : Value} {l : List Int} (h0 : MachAt w G M m) (hb : Below w.heap.size w w1) (ho : w1.ownsRow w.heap.size 24 1 v l.length (u32s l)) (hl : Words l) :
    ∃ G', MachAt (w1.setCell ⟨M, 43, none⟩ v) G' M { m with ch := l } ∧ (∀ k, k < w.heap.size → G'.R k = G.R k) ∧ (∀ k, G'.R k ≠ .none → G.R k ≠ .none ∨ w.heap.size ≤ k) := by
  have h := h0.keepb hb
  have hR : ∀ k, G.R k ≠ .none → (if v.ownBlock = some k then MRole.ch else G.R k) = G.R k := fun k hk => by
    have h1 := h0.lt k hk
    rw [if_neg]
    intro e
    have := (own_range ho k e).1
    omega
  have o := onlyM w1 M 43 v
  have ob : ∀ k, k ≠ M → (w1.setCell ⟨M, 43, none⟩ v).heap[k]? = w1.heap[k]? := fun k hk => Below.heap_setCell _ _ _ _ hk
  have ne : ∀ k, G.R k ≠ .mach → ¬ k = M := fun k hk e => hk (by rw [e]; exact h.rM)
  refine ⟨{ G with R := fun k => if v.ownBlock = some k then .ch else G.R k, chv := v }, ⟨chM_ok h.ok hl, ?_, ?_, ?_, ?_, ?_, ?_, ?_, ?_, ?_, ?_, ?_, ?_⟩, ?_, ?_⟩
  · exact (h.ptr.set 43 v).to (machC_setT (G := G) (G' := { G with R := fun k => if v.ownBlock = some k then .ch else G.R k, chv := v }) (m := m) (m' := { m with ch := l }) (k := 0) (v := v) h.ok rfl rfl rfl rfl)
  · exact h.file.keep o (ne _ (by rw [h.rF]; simp)) (ne _ (by rw [h.rW]; simp))
  · exact h.mem.keep o (ne _ (by rw [h.rm]; simp)) (ne _ (by rw [h.rg]; simp))
  · exact h.out.keepw o (fun k hk => ne k (by rw [h.ro k hk]; simp))
  · intro W hW
    refine ch_of_own ho fun k hk => ?_
    refine (hW k (if_pos hk)).trans (ob k ?_)
    have h1 := (own_range ho k hk).1
    have h2 := h0.lt M (by rw [h.rM]; simp)
    omega
  · exact (hR _ (by rw [h.rM]; simp)).trans h.rM
  · exact (hR _ (by rw [h.rF]; simp)).trans h.rF
  · exact (hR _ (by rw [h.rW]; simp)).trans h.rW
  · exact (hR _ (by rw [h.rm]; simp)).trans h.rm
  · exact (hR _ (by rw [h.rg]; simp)).trans h.rg
  · exact fun k hk => (hR _ (by rw [h.ro k hk]; simp)).trans (h.ro k hk)
  · intro k hk
    show k < (w1.setCell ⟨M, 43, none⟩ v).heap.size
    rw [show (w1.setCell ⟨M, 43, none⟩ v).heap.size = w1.heap.size by simp [World.setCell]]
    by_cases e : v.ownBlock = some k
    · exact (own_range ho k e).2
    · exact h.lt k (by simpa [e] using hk)
  · intro k hk
    show (if v.ownBlock = some k then MRole.ch else G.R k) = G.R k
    rw [if_neg]
    intro e
    have := (own_range ho k e).1
    omega
  · intro k hk
    by_cases e : v.ownBlock = some k
    · exact .inr (own_range ho k e).1
    · exact .inl (by simpa [e] using hk)
theorem mchoose_any (w : World) (G : MG) (M : Nat) (m : Mx) (h : MachAt w G M m) (v : Value) (l : List Int) (hr : Reads32 w v l) (hl : l.length * 4 ≤ 140737488355328) (hw : Words l) (hnil : ∀ c n, v = .slice none n c → c = 0) :
    Calls Tryz.prog 96 #[.pointer (some ⟨M, 0, none⟩), v] w fun e w' => e = .returned (.int .i64 0) ∧ (∃ G', MachAt w' G' M { m with ch := l } ∧ (∀ k, k < w.heap.size → G'.R k = G.R k) ∧ (∀ k, G'.R k ≠ .none → G.R k ≠ .none ∨ w.heap.size ≤ k)) ∧ Only (fun k => k = M) w w' := by
  have HN := mhid (mmnone_made w M _ h.mc.f)
  have HC := mhid (muclone_any w v l hr hl hnil)
  have H := mhid h
  have HW := mhid hw
  obtain ⟨pv, nv, cv, rfl⟩ := hr.shape'
  clear h hr hl hw hnil
  go_enter Tryz.func96, Tryz.ntmps96
  go_wp2_with fail
  refine HN.out.mono ?_
  rintro e w0 ⟨rfl, rfl⟩
  go_wp2_with fail
  refine HC.out.mono ?_
  rintro e w1 ⟨v', rfl, ho, hb⟩
  have H1 := mhid (H.out.keepb hb)
  have c43 := H1.out.mc.ch
  have f43 := H1.out.mc.fz 43
  have HO := mhid (And.intro ho hb)
  obtain ⟨pv2, nv2, cv2, rfl⟩ := (Reads32.of_own (l := l) ho).shape'
  clear ho hb
  go_wp2_with fail
  go_ret
  exact ⟨rfl, H.out.choose HO.out.2 HO.out.1 HW.out, (Only.of_below HO.out.2).trans (onlyM w1 M 43 _)⟩
def spsrM (m : Mx) (q : Px) : Mx := if packE q m.nw = 0 then { m with p := q } else m
end Go.Proofs.YtajholbcpmjhiaaGreatDoor
/- The walk of mach.SetPsr. -/
namespace Go.Proofs.YtajholbcpmjhiaaGreatDoor
open Go.RowKit
set_option maxRecDepth 100000 in
set_option maxHeartbeats 2000000 in
theorem msetpsr_any (w : World) (G : MG) (M : Nat) (m : Mx) (h : MachAt w G M m) (q : Px) (hq : q.bd) :
    Calls Tryz.prog 55 #[.pointer (some ⟨M, 0, none⟩), q.agg] w fun e w' => e = .returned (.int .i64 (packE q m.nw)) ∧ MachAt w' G M (spsrM m q) ∧ Only (fun k => k = M) w w' := by
  have HN := mhid (fun w' hb => mmnone_made w' M _ (h.keepb (w' := w') hb).mc.f)
  have HF := mhid (fun w' => (show Calls Tryz.prog 124 #[q.agg, .int .i64 m.f.nw] w' fun e w2 => e = .returned (.tuple #[.int .u32 (packS q m.nw), .int .i64 (packE q m.nw)]) ∧ Below w'.heap.size w' w2 from pack_any q hq m.f.nw w'))
  have H := mhid h
  have HQ := mhid hq
  have HS := mhid (show spsrM m q = if packE q m.nw = 0 then { m with p := q } else m from rfl)
  have HPM := mhid (show packE q m.nw = 0 → pmayP q m.nw from fun e => by unfold packE at e; split at e; exact (by assumption : _ ∧ _).2; cases e)
  obtain ⟨B, hB⟩ : ∃ B, B = w.heap.size := ⟨_, rfl⟩
  obtain ⟨W, hW⟩ : ∃ W, W = w.alloc (.cells #[.int .u8 q.cwp, .int .u8 q.pil, .int .u8 q.bank, .int .u8 q.flags] 47) := ⟨_, rfl⟩
  clear h hq
  generalize packE q m.nw = er at *
  generalize packS q m.nw = ps at *
  go_enter Tryz.func55, Tryz.ntmps55
  go_wp2_with fail
  rw [← hW, ← hB] 
  have hbb : Below w.heap.size w W := by rw [hW]; exact (Below.refl _ _).alloc (Nat.le_refl _) _
  have hbx : ARow W B 47 (psrC q) := by rw [hW, hB]; exact ARow.fresh w 47 #[.int .u8 q.cwp, .int .u8 q.pil, .int .u8 q.bank, .int .u8 q.flags]
  have hBs : w.heap.size ≤ B := by omega
  have hneq : M ≠ B := by have := H.out.lt M (by rw [H.out.rM]; simp); omega
  clear hW hB
  refine (HN.out W hbb).mono ?_
  rintro e w0 ⟨rfl, rfl⟩
  have HH := mhid (And.intro hbb hbx)
  have hd : Below W.heap.size W W.drew := (Below.refl _ _).drew
  have HSS := mhid (show ∀ w', Below W.heap.size W w' → w'.cell? ⟨M, 0, none⟩ = some (.int .i64 m.f.nw) ∧ w'.cell? ⟨B, 0, none⟩ = some (.int .u8 q.cwp) ∧ w'.cell? ⟨B, 1, none⟩ = some (.int .u8 q.pil) ∧ w'.cell? ⟨B, 2, none⟩ = some (.int .u8 q.bank) ∧ w'.cell? ⟨B, 3, none⟩ = some (.int .u8 q.flags) from fun w' h => by
    have hx := HH.out.2.below h
    exact ⟨(H.out.keepb (HH.out.1.trans (h.mono HH.out.1.size))).mc.nw, hx.cell (k := 0) rfl, hx.cell (k := 1) rfl, hx.cell (k := 2) rfl, hx.cell (k := 3) rfl⟩)
  have hS0 := HSS.out W (Below.refl _ _)
  clear hbb hbx
  go_wp2_with fail
  go_region_held3 (fun w' => w'.cell? ⟨M, 0, none⟩ = some (.int .i64 m.f.nw) ∧ w'.cell? ⟨B, 0, none⟩ = some (.int .u8 q.cwp) ∧ w'.cell? ⟨B, 1, none⟩ = some (.int .u8 q.pil) ∧ w'.cell? ⟨B, 2, none⟩ = some (.int .u8 q.bank) ∧ w'.cell? ⟨B, 3, none⟩ = some (.int .u8 q.flags)) (first | (with_reducible exact hS0) | (refine HSS.out _ ?_; go_grown; done) | (exact HSS.out _ hb1))
    ((go_at_call 124; (with_reducible refine (HF.out _).mono ?_); rintro e W1 ⟨rfl, hb10⟩; have hb1 := hd.trans (hb10.mono hd.size)))
  have hbw : Below w.heap.size w W1 := HH.out.1.trans (hb1.mono HH.out.1.size)
  have H1 := mhid (H.out.keepb hbw)
  have hx1 := HH.out.2.below hb1
  have HB1 := mhid hbw
  clear hb1 hb10 hbw HSS hd
  obtain ⟨-, b0, b1, b2, b3⟩ : True ∧ W1.cell? ⟨B, 0, none⟩ = some (.int .u8 q.cwp) ∧ W1.cell? ⟨B, 1, none⟩ = some (.int .u8 q.pil) ∧ W1.cell? ⟨B, 2, none⟩ = some (.int .u8 q.bank) ∧ W1.cell? ⟨B, 3, none⟩ = some (.int .u8 q.flags) := ⟨trivial, hx1.cell (k := 0) rfl, hx1.cell (k := 1) rfl, hx1.cell (k := 2) rfl, hx1.cell (k := 3) rfl⟩
  have c5 := H1.out.mc.cwp
  have c6 := H1.out.mc.pil
  have c7 := H1.out.mc.bank
  have c8 := H1.out.mc.flags
  have f5 := H1.out.mc.fz 5
  have f6 := H1.out.mc.fz 6
  have f7 := H1.out.mc.fz 7
  have f8 := H1.out.mc.fz 8
  by_cases hz : er = 0
  · rw [if_pos hz] at HS
    have HPM2 := mhid (HPM.out hz)
    subst hz
    go_wp2_with fail
    go_ret
    rw [HS.out]
    exact ⟨rfl, H1.out.setPsr HQ.out HPM2.out, (Only.of_below HB1.out).trans (onlyM4 W1 M _ _ _ _)⟩
  · rw [if_neg hz] at HS
    have k1 : (er != 0) = true := by simpa using hz
    clear hz
    go_wp2_with fail
    go_ret
    rw [HS.out]
    exact ⟨rfl, H1.out, Only.of_below HB1.out⟩
end Go.Proofs.YtajholbcpmjhiaaGreatDoor
/- Plain law of the document's file (muntinref03): a list of all that was set. No program in sight. -/
namespace Go.Proofs.YtajholbcpmjhiaaGreatDoor
open Go.RowKit
structure Sd where
  k : Int
  o : Int
  a : Int
  w : Int
def atL (L : List Sd) (k o a : Int) : Int := L.foldl (fun acc s => if s.k = k ∧ s.o = o ∧ s.a = a then s.w else acc) 0
theorem atL_snoc (L : List Sd) (s : Sd) (k o a : Int) : atL (L ++ [s]) k o a = if s.k = k ∧ s.o = o ∧ s.a = a then s.w else atL L k o a := by
  unfold atL; rw [List.foldl_append]; rfl
def atF (L : List Sd) (k o a : Int) : Int := if k = 0 ∧ a = 0 then 0 else atL L k o a
def plK (r : Int) : Int := if r < 8 then 0 else if r < 16 then 2 else if r < 24 then 1 else 2
def plO (nw w b r : Int) : Int := if r < 8 then b else if r < 16 then (w + nw - 1) % nw else w
def plA (r : Int) : Int := if r < 8 then r else if r < 16 then r - 8 else if r < 24 then r - 16 else r - 24
def cellX (f : Fx) (k o a : Int) : Int :=
  if k = 0 then (if a = 0 then 0 else f.glo.getD (o.toNat * 8 + a.toNat) 0) else if k = 1 then f.win.getD (16 * o.toNat + a.toNat) 0 else f.win.getD (16 * o.toNat + (8 + a.toNat)) 0
def plOk (f : Fx) (k o a : Int) : Prop := (0 ≤ a ∧ a < 8) ∧ 0 ≤ o ∧ ((k = 0 ∧ o < 17) ∨ ((k = 1 ∨ k = 2) ∧ o < f.nw))
def LogOf (L : List Sd) (f : Fx) : Prop := ∀ k o a, plOk f k o a → atF L k o a = cellX f k o a
theorem pl_g {r : Int} (h : r < 8) (nw w b : Int) : plK r = 0 ∧ plO nw w b r = b ∧ plA r = r := by
  unfold plK plO plA; rw [if_pos h, if_pos h, if_pos h]; exact ⟨rfl, rfl, rfl⟩
theorem pl_o {r : Int} (h : 8 ≤ r) (h2 : r < 16) (nw w b : Int) : plK r = 2 ∧ plO nw w b r = (w + nw - 1) % nw ∧ plA r = r - 8 := by
  have h8 : ¬ r < 8 := by omega
  unfold plK plO plA; rw [if_neg h8, if_neg h8, if_neg h8, if_pos h2, if_pos h2, if_pos h2]; exact ⟨rfl, rfl, rfl⟩
theorem pl_l {r : Int} (h : 16 ≤ r) (h2 : r < 24) (nw w b : Int) : plK r = 1 ∧ plO nw w b r = w ∧ plA r = r - 16 := by
  have h8 : ¬ r < 8 := by omega
  have h16 : ¬ r < 16 := by omega
  unfold plK plO plA; rw [if_neg h8, if_neg h8, if_neg h8, if_neg h16, if_neg h16, if_neg h16, if_pos h2, if_pos h2]; exact ⟨rfl, rfl, rfl⟩
theorem pl_i {r : Int} (h : 24 ≤ r) (nw w b : Int) : plK r = 2 ∧ plO nw w b r = w ∧ plA r = r - 24 := by
  have h8 : ¬ r < 8 := by omega
  have h16 : ¬ r < 16 := by omega
  have h24 : ¬ r < 24 := by omega
  unfold plK plO plA; rw [if_neg h8, if_neg h8, if_neg h8, if_neg h16, if_neg h16, if_neg h16, if_neg h24, if_neg h24]; exact ⟨rfl, rfl, rfl⟩
theorem pl_ways (r : Int) : r < 8 ∨ (8 ≤ r ∧ r < 16) ∨ (16 ≤ r ∧ r < 24) ∨ 24 ≤ r := by omega
theorem wrap_before (w n : Nat) (h : 0 < n) : ((w : Int) + (n : Int) - 1) % (n : Int) = (((w + n - 1) % n : Nat) : Int) := by
  rw [show (w : Int) + (n : Int) - 1 = ((w + n - 1 : Nat) : Int) from by omega]; exact (Int.natCast_emod _ _).symm
theorem plOk_of {f : Fx} (h : 2 ≤ f.nw) {w b r : Int} (hr : regOk f w b r) : plOk f (plK r) (plO f.nw w b r) (plA r) := by
  obtain ⟨⟨a1, a2⟩, ⟨a3, a4⟩, a5, a6⟩ := hr
  have hm := Int.emod_lt_of_pos (w + (f.nw : Int) - 1) (show 0 < (f.nw : Int) by omega)
  have hn := Int.emod_nonneg (w + (f.nw : Int) - 1) (show (f.nw : Int) ≠ 0 by omega)
  unfold plOk
  rcases pl_ways r with h1 | ⟨h1, h2⟩ | ⟨h1, h2⟩ | h1
  · obtain ⟨e1, e2, e3⟩ := pl_g h1 f.nw w b; rw [e1, e2, e3]; omega
  · obtain ⟨e1, e2, e3⟩ := pl_o h1 h2 f.nw w b; rw [e1, e2, e3]; omega
  · obtain ⟨e1, e2, e3⟩ := pl_l h1 h2 f.nw w b; rw [e1, e2, e3]; omega
  · obtain ⟨e1, e2, e3⟩ := pl_i h1 f.nw w b; rw [e1, e2, e3]; omega
theorem cellX_get {f : Fx} (h : 2 ≤ f.nw) {w b r : Int} (hr : regOk f w b r) : cellX f (plK r) (plO f.nw w b r) (plA r) = getV f w b r := by
  unfold getV
  rw [if_pos hr]
  obtain ⟨⟨a1, a2⟩, ⟨a3, a4⟩, a5, a6⟩ := hr
  obtain ⟨w, rfl⟩ := Int.eq_ofNat_of_zero_le a1
  obtain ⟨b, rfl⟩ := Int.eq_ofNat_of_zero_le a3
  obtain ⟨r, rfl⟩ := Int.eq_ofNat_of_zero_le a5
  simp only [Int.toNat_natCast]
  rcases pl_ways (r : Int) with h1 | ⟨h1, h2⟩ | ⟨h1, h2⟩ | h1
  · obtain ⟨e1, e2, e3⟩ := pl_g h1 f.nw w b
    rw [e1, e2, e3]
    unfold cellX getF
    rw [if_pos rfl]
    by_cases h0 : r = 0
    · rw [if_pos (by omega), if_pos h0]
    · rw [if_neg (by omega), if_neg h0, if_pos (by omega)]
      simp only [Int.toNat_natCast]
  · obtain ⟨e1, e2, e3⟩ := pl_o h1 h2 f.nw w b
    rw [e1, e2, e3, wrap_before _ _ (by omega)]
    unfold cellX getF
    rw [if_neg (by omega), if_neg (by omega), if_neg (show ¬ r = 0 by omega), if_neg (by omega), if_pos (by omega), Int.toNat_natCast]
    congr 1; omega
  · obtain ⟨e1, e2, e3⟩ := pl_l h1 h2 f.nw w b
    rw [e1, e2, e3]
    unfold cellX getF
    rw [if_neg (by omega), if_pos rfl, if_neg (show ¬ r = 0 by omega), if_neg (by omega), if_neg (by omega), Int.toNat_natCast]
    congr 1; omega
  · obtain ⟨e1, e2, e3⟩ := pl_i h1 f.nw w b
    rw [e1, e2, e3]
    unfold cellX getF
    rw [if_neg (by omega), if_neg (by omega), if_neg (show ¬ r = 0 by omega), if_neg (by omega), if_neg (by omega), Int.toNat_natCast]
    congr 1; omega
theorem LogOf.get {L : List Sd} {f : Fx} (h : LogOf L f) (h2 : 2 ≤ f.nw) {w b r : Int} (hr : regOk f w b r) : atF L (plK r) (plO f.nw w b r) (plA r) = getV f w b r := by
  rw [h _ _ _ (plOk_of h2 hr), cellX_get h2 hr]
theorem LogOf.new (nw : Nat) : LogOf [] (Fx.new nw) := by
  intro k o a hp
  have e : ∀ n i, (List.replicate n (0 : Int)).getD i 0 = 0 := fun n i => by
    rw [List.getD_eq_getElem?_getD, List.getElem?_replicate]; split <;> rfl
  unfold atF atL cellX Fx.new
  simp only [List.foldl_nil, e]
  split <;> split <;> (try split) <;> rfl
theorem getD_set (l : List Int) (i j : Nat) (x : Int) (hi : i < l.length) : (l.set i x).getD j 0 = if i = j then x else l.getD j 0 := by
  rw [List.getD_eq_getElem?_getD, List.getD_eq_getElem?_getD]
  by_cases h : i = j
  · subst h; rw [List.getElem?_set_self hi, if_pos rfl]; rfl
  · rw [List.getElem?_set_ne h, if_neg h]
theorem LogOf.set {L : List Sd} {f : Fx} (h : LogOf L f) (hok : f.ok) {w b r : Int} (hr : regOk f w b r) (x : Int) : LogOf (L ++ [⟨plK r, plO f.nw w b r, plA r, x⟩]) (setV f w b r x) := by
  intro k o a hp
  have h2 := hok.nw2
  have hnw : (setV f w b r x).nw = f.nw := setV_nw _ _ _ _ _
  have hp' : plOk f k o a := by unfold plOk at hp ⊢; rw [hnw] at hp; exact hp
  have h1 := h k o a hp'
  have hq := plOk_of h2 hr
  unfold atF at h1 ⊢
  rw [atL_snoc]
  have hwl := hok.wl
  have hgl := hok.gl
  have hset : setV f w b r x = setF f w.toNat b.toNat r.toNat x := by unfold setV; rw [if_pos hr]
  rw [hset]
  obtain ⟨⟨a1, a2⟩, ⟨a3, a4⟩, a5, a6⟩ := hr
  obtain ⟨w, rfl⟩ := Int.eq_ofNat_of_zero_le a1
  obtain ⟨b, rfl⟩ := Int.eq_ofNat_of_zero_le a3
  obtain ⟨r, rfl⟩ := Int.eq_ofNat_of_zero_le a5
  simp only [Int.toNat_natCast]
  obtain ⟨⟨p1, p2⟩, p3, p4⟩ := hp'
  obtain ⟨a, rfl⟩ := Int.eq_ofNat_of_zero_le p1
  obtain ⟨o, rfl⟩ := Int.eq_ofNat_of_zero_le p3
  unfold cellX at h1 ⊢
  simp only [Int.toNat_natCast] at h1 ⊢
  by_cases h8 : r < 8
  · obtain ⟨eK, eO, eA⟩ := pl_g (r := (r : Int)) (by omega) f.nw w b
    rw [eK, eO, eA]
    by_cases h0 : r = 0
    · have e : setF f w b r x = f := by unfold setF; rw [if_pos h0]
      rw [e, ← h1]
      split
      · rfl
      · rw [if_neg (by omega)]
    · have e : setF f w b r x = { f with glo := f.glo.set (b * 8 + r) x } := by unfold setF; rw [if_neg h0, if_pos h8]
      rw [e]
      simp only
      by_cases hk : k = 0
      · subst hk
        by_cases ha : (a : Int) = 0
        · rw [if_pos ⟨rfl, ha⟩, if_pos rfl, if_pos ha]
        · rw [if_neg (fun h => ha h.2), if_pos rfl, if_neg ha] at h1
          rw [if_neg (fun h => ha h.2), if_pos rfl, if_neg ha, getD_set _ _ _ _ (by omega)]
          by_cases hb : (b : Int) = o ∧ (r : Int) = a
          · rw [if_pos ⟨rfl, hb.1, hb.2⟩, if_pos (by omega)]
          · rw [if_neg (fun h => hb h.2), if_neg (by omega), h1]
      · rw [if_neg (fun h => hk h.1), if_neg hk] at h1
        rw [if_neg (fun h => hk h.1), if_neg hk, if_neg (fun h => hk h.1.symm), h1]
  · have e : ∃ i, setF f w b r x = { f with win := f.win.set i x } ∧ i < 16 * f.nw ∧ (plK (r : Int) = 1 ∧ (i : Int) = 16 * plO (f.nw : Int) (w : Int) (b : Int) (r : Int) + plA (r : Int) ∨ plK (r : Int) = 2 ∧ (i : Int) = 16 * plO (f.nw : Int) (w : Int) (b : Int) (r : Int) + (8 + plA (r : Int))) := by
      unfold setF
      rw [if_neg (by omega), if_neg h8]
      have hml := Nat.mod_lt (w + f.nw - 1) (show 0 < f.nw by omega)
      rcases pl_ways (r : Int) with g1 | ⟨g1, g2⟩ | ⟨g1, g2⟩ | g1
      · omega
      · obtain ⟨e1, e2, e3⟩ := pl_o g1 g2 f.nw w b
        rw [if_pos (by omega), e1, e2, e3, wrap_before _ _ (by omega)]
        exact ⟨_, rfl, by omega, .inr ⟨rfl, by omega⟩⟩
      · obtain ⟨e1, e2, e3⟩ := pl_l g1 g2 f.nw w b
        rw [if_neg (by omega), e1, e2, e3]
        exact ⟨_, rfl, by omega, .inl ⟨rfl, by omega⟩⟩
      · obtain ⟨e1, e2, e3⟩ := pl_i g1 f.nw w b
        rw [if_neg (by omega), e1, e2, e3]
        exact ⟨_, rfl, by omega, .inr ⟨rfl, by omega⟩⟩
    obtain ⟨i, e, hi, hK⟩ := e
    rw [e]
    simp only
    obtain ⟨⟨q1, q2⟩, q3, q4⟩ := hq
    generalize plK (r : Int) = K at *
    generalize plO (f.nw : Int) (w : Int) (b : Int) (r : Int) = O at *
    generalize plA (r : Int) = A at *
    by_cases hk : k = 0
    · subst hk
      rw [if_pos rfl] at h1 ⊢
      rw [← h1]
      split
      · rfl
      · rw [if_neg (by omega)]
    · rw [if_neg (fun h => hk h.1), if_neg hk] at h1
      rw [if_neg (fun h => hk h.1), if_neg hk]
      by_cases hk1 : k = 1
      · rw [if_pos hk1] at h1 ⊢
        rw [getD_set _ _ _ _ (by omega)]
        by_cases hb : K = k ∧ O = o ∧ A = a
        · rw [if_pos hb, if_pos (by omega)]
        · rw [if_neg hb, if_neg (by omega), h1]
      · rw [if_neg hk1] at h1 ⊢
        rw [getD_set _ _ _ _ (by omega)]
        by_cases hb : K = k ∧ O = o ∧ A = a
        · rw [if_pos hb, if_pos (by omega)]
        · rw [if_neg hb, if_neg (by omega), h1]
end Go.Proofs.YtajholbcpmjhiaaGreatDoor
/- Plain law: code in a memory; what a wind machine is made of. No program in sight. -/
namespace Go.Proofs.YtajholbcpmjhiaaGreatDoor
open Go.RowKit
theorem encS_word {x : Ix} (h : mayP x) : encS x = wordS x := if_pos h
theorem encs_words {I : List Ix} (h : ∀ x ∈ I, okI x) : Words (I.map encS) := fun y hy => by
  obtain ⟨x, hx, rfl⟩ := List.mem_map.1 hy
  exact encS_bd (h x hx).1
theorem codes_put {d : List Int} {I : List Ix} {a : Nat} (ha : a % 4 = 0) (hok : ∀ x ∈ I, okI x) (hl : a + 4 * I.length ≤ d.length) : Codes (putV d a (I.map encS)) a I := by
  have hsp : spanE d.length (a : Int) ((I.map encS).length : Nat) 4 = 0 := by rw [List.length_map]; exact spanE_row _ _ _ ha hl
  unfold putV
  rw [if_pos hsp, Int.toNat_natCast]
  intro i x hx
  have hi := (List.getElem?_eq_some_iff.1 hx).1
  have hm := List.mem_of_getElem? hx
  refine ⟨by omega, by rw [putS_len]; omega, ?_, (hok x hm).2, (hok x hm).1⟩
  rw [load_put (I.map encS) d a i (encs_words hok) (by rw [List.length_map]; exact hl) (by rw [List.length_map]; exact hi), ← encS_word (hok x hm).2, List.getD_eq_getElem?_getD, List.getElem?_map, hx]
  rfl
def FrOk (f : Fx) (k room : Nat) : Prop := ∀ w : Nat, w < k → w < f.nw → ∃ A : Nat, getV f w 0 14 = A ∧ 2048 ≤ A ∧ A % 4 = 0 ∧ A + 64 ≤ room
theorem getV_out {f : Fx} {w : Nat} (h2 : 2 ≤ f.nw) (hw : w < f.nw) : getV f w 0 14 = f.win.getD (16 * ((w + f.nw - 1) % f.nw) + 14) 0 := by
  unfold getV
  rw [if_pos (show regOk f w 0 14 from ⟨⟨by omega, by omega⟩, by omega, by omega, by omega⟩)]
  unfold getF
  rw [if_neg (by decide), if_neg (by decide), if_pos (by decide), Int.toNat_natCast]
  rfl
theorem before_inj {n a b : Nat} (ha : a < n) (hb : b < n) (h : (a + n - 1) % n = (b + n - 1) % n) : a = b := by
  have e : ∀ x, x < n → (x + n - 1) % n = if x = 0 then n - 1 else x - 1 := fun x hx => by
    by_cases h0 : x = 0
    · subst h0; rw [if_pos rfl, Nat.zero_add, Nat.mod_eq_of_lt (by omega)]
    · rw [if_neg h0, show x + n - 1 = (x - 1) + n by omega, Nat.add_mod_right, Nat.mod_eq_of_lt (by omega)]
  rw [e a ha, e b hb] at h
  split at h <;> split at h <;> omega
theorem FrOk.set {f : Fx} (hok : f.ok) {k room : Nat} (h : FrOk f k room) (hk : k < f.nw) {A : Nat} (h1 : 2048 ≤ A) (h2 : A % 4 = 0) (h3 : A + 64 ≤ room) : FrOk (setV f k 0 14 A) (k + 1) room := by
  have hwl := hok.wl
  have hn2 := hok.nw2
  have e : setV f k 0 14 A = { f with win := f.win.set (16 * ((k + f.nw - 1) % f.nw) + 14) A } := by
    unfold setV
    rw [if_pos (show regOk f k 0 14 from ⟨⟨by omega, by omega⟩, by omega, by omega, by omega⟩)]
    unfold setF
    rw [if_neg (by decide), if_neg (by decide), if_pos (by decide), Int.toNat_natCast]
    rfl
  have hml := Nat.mod_lt (k + f.nw - 1) (show 0 < f.nw by omega)
  intro w hw hw2
  rw [e] at hw2 ⊢
  have hw3 : w < f.nw := hw2
  by_cases hwk : w = k
  · rw [hwk] at hw3 ⊢
    refine ⟨A, ?_, h1, h2, h3⟩
    refine (getV_out (f := ⟨f.nw, f.win.set (16 * ((k + f.nw - 1) % f.nw) + 14) A, f.glo⟩) hn2 hw3).trans ?_
    show (f.win.set _ _).getD _ 0 = _
    rw [getD_set _ _ _ _ (by omega), if_pos rfl]
  · obtain ⟨B, hB, r⟩ := h w (by omega) hw3
    refine ⟨B, ?_, r⟩
    refine (getV_out (f := ⟨f.nw, f.win.set (16 * ((k + f.nw - 1) % f.nw) + 14) A, f.glo⟩) hn2 hw3).trans ?_
    show (f.win.set _ _).getD _ 0 = _
    have hml2 := Nat.mod_lt (w + f.nw - 1) (show 0 < f.nw by omega)
    rw [getD_set _ _ _ _ (by omega), if_neg (fun hh : 16 * ((k + f.nw - 1) % f.nw) + 14 = 16 * ((w + f.nw - 1) % f.nw) + 14 => hwk (before_inj hw3 hk (by omega))), ← hB, getV_out hn2 hw3]
end Go.Proofs.YtajholbcpmjhiaaGreatDoor
/- Plain law: a SAVE, or a RESTORE, that traps, its handler, and the second try. No program in sight. -/
namespace Go.Proofs.YtajholbcpmjhiaaGreatDoor
open Go.RowKit
def Not4 (c : Int) (m : Mx) : Prop := m.kind = 0 ∧ ¬ (m.pc = c ∧ m.p.bank = 0)
def He.of (m : Mx) (pil : Int) (lo : Nat) (L : List Ix) : He := ⟨m.f.nw, m.f.glo.take 128, pil, m.tpsr.set 16 (packS m.p m.nw), m.out, m.v, lo, L⟩
theorem Mx.ok.noirq {m : Mx} (h : m.ok) : ¬ ((0 : Int) < 16 ∧ m.p.pil < 0) := by
  have := h.pb.2.1.1; omega
theorem unpacked {p : Px} {nw : Int} (hb : p.bd) (hw : winP nw) (hm : pmayP p nw) : unE (packW p) nw = 0 ∧ unS (packW p) nw = p := by
  have hu := un_pack hb hw hm
  have hk : unOk (packW p) nw := ⟨(pack_bd hb hw hm).2, by rw [hu]; exact hm⟩
  unfold unE unS
  rw [if_pos hw, if_pos hk, if_pos ⟨hw, hk⟩]
  exact ⟨rfl, hu⟩
def outM (E : He) (s : Hn) (c : Int) (p : Px) : Mx := ⟨⟨E.nw, s.win, E.G0 ++ s.g⟩, s.mem, c, s.wim, p, s.tpc, E.tpsr, s.ch, E.out, 0, E.v⟩
theorem rett_out {E : He} {s : Hn} (h : Hs E s) (hx : E.L[s.i]? = some ⟨32, 0, 0, 0, false, 0⟩) {p : Px} (hb : p.bd) (hpm : pmayP p E.nw) (hw : winP E.nw) (hq : E.tpsr.getD 16 0 = packW p) {c : Int} (hc : s.tpc.getD 16 0 = c) :
    stepM (hm E s) 0 = outM E s c p := by
  rw [step_code (m := hm E s) rfl h.ok.noirq (show (hm E s).pc = ((E.lo + 4 * s.i : Nat) : Int) from rfl) (h.code _ _ hx)]
  obtain ⟨u1, u2⟩ := unpacked hb hw hpm
  unfold opS
  simp only
  rw [if_neg (by decide), if_neg (by decide), if_neg (by decide), if_neg (by decide), if_neg (by decide), if_neg (by decide), if_neg (by decide), if_neg (by decide), if_neg (by decide), if_neg (by decide), if_neg (by decide), if_neg (by decide), if_neg (by decide), if_neg (by decide), if_neg (by decide), if_neg (by decide), if_neg (by decide), if_neg (by decide), if_pos (by decide)]
  have e1 : (hm E s).tpsr.getD (hm E s).p.bank.toNat 0 = packW p := hq
  have e2 : (hm E s).tpc.getD (hm E s).p.bank.toNat 0 = c := hc
  rw [e1, e2, show (hm E s).nw = (E.nw : Int) from rfl, if_neg (by show ¬ ((16 : Int) = 0); decide), if_pos u1, u2]
  rfl
theorem step_succ {nw cw : Nat} (h2 : 2 ≤ nw) (h32 : nw ≤ 32) (hc : cw < nw) : stepV (cw : Int) 1 nw = (((cw + 1) % nw : Nat) : Int) := by
  unfold stepV
  rw [if_pos (show okW _ _ from ⟨⟨by omega, by omega⟩, by omega, by omega⟩), Int.natCast_emod]
  rfl
end Go.Proofs.YtajholbcpmjhiaaGreatDoor
/- Plain law: what a machine says grows by one word a step at most. No program in sight. -/
namespace Go.Proofs.YtajholbcpmjhiaaGreatDoor
open Go.RowKit
def outL (m : Mx) : Nat := m.out.length
theorem outL_ite {c : Prop} [Decidable c] {a b : Mx} {n : Nat} (ha : outL a ≤ n) (hb : outL b ≤ n) : outL (if c then a else b) ≤ n := by split <;> assumption
theorem outL_op (m : Mx) (x : Ix) (a b : Int) : outL (opS m x a b) ≤ outL m + 1 := by
  have h0 : ∀ m' : Mx, outL m' = outL m → outL m' ≤ outL m + 1 := fun m' h => by omega
  unfold opS
  repeat' apply outL_ite
  all_goals first
    | (exact h0 _ rfl)
    | (exact h0 _ (outL_turn _ _ _ _ _ _))
    | (exact h0 _ (outL_load _ _ _ _))
    | (exact h0 _ (outL_store _ _ _ _))
    | (exact h0 _ (outL_win _ _ _))
    | (show (m.out ++ [a]).length ≤ m.out.length + 1; rw [List.length_append]; exact Nat.le_refl _)
theorem outL_step (m : Mx) (l : Int) : outL (stepM m l) ≤ outL m + 1 := by
  unfold stepM
  split
  · omega
  split
  · exact Nat.le_succ _
  · unfold runM
    split
    · exact Nat.le_succ _
    · exact outL_op _ _ _ _
end Go.Proofs.YtajholbcpmjhiaaGreatDoor
