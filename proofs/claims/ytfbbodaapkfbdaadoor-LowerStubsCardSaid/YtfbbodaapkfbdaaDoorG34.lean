/- The walk of muntinlaw26.LowerStubs. -/
import Derived.Test.YtfbbodaapkfbdaaDoorG32
import Derived.Test.YtfbbodaapkfbdaaDoorG30
import Derived.Test.YtfbbodaapkfbdaaDoorG33
import Derived.Deep.Cut
namespace Go.Proofs.YtfbbodaapkfbdaaDoor
open Go.RowKit
set_option linter.unusedVariables false
set_option linter.unusedSimpArgs false
theorem look_set {M : List (List UInt8 × Int)} {nm : ByteArray} {n : Int} : (look (markM M nm n) nm.data.toList).isSome = true := by
  unfold markM
  split
  · assumption
  · unfold look
    simp [List.find?_append]
theorem markE_again (M : List (List UInt8 × Int)) (nm : ByteArray) (n : Int) : markE (markM M nm n) nm = 9 := by
  unfold markE; rw [if_pos look_set]
theorem look_bd {M : List (List UInt8 × Int)} (h : ∀ e ∈ M, 0 ≤ e.2 ∧ e.2 < 4294967296) : ∀ nm t, look M nm = some t → 0 ≤ t ∧ t < 4294967296 := by
  intro nm t ht
  unfold look at ht
  cases hf : M.find? (fun e => e.1 == nm) with
  | none => rw [hf] at ht; cases ht
  | some e =>
    rw [hf] at ht
    simp at ht
    subst ht
    exact h e (List.mem_of_find?_eq_some hf)
theorem markM_bd {M : List (List UInt8 × Int)} (h : ∀ e ∈ M, 0 ≤ e.2 ∧ e.2 < 4294967296) (nm : ByteArray) {n : Int} (hn : 0 ≤ n ∧ n < 4294967296) : ∀ e ∈ markM M nm n, 0 ≤ e.2 ∧ e.2 < 4294967296 := by
  unfold markM
  split
  · exact h
  · intro e he
    rcases List.mem_append.1 he with he | he
    · exact h e he
    · rw [List.mem_singleton.1 he]; exact hn
theorem stubL_far (p : Prg) (th : Int) : FarL (stubL p th [] []) ∧ PutL (stubL p th [] []) ∧ (stubL p th [] []).length ≤ 2 := by
  unfold stubL
  split
  · rename_i f _
    split
    · have hb : (stubI th).bd := by unfold stubI; split <;> (unfold Ix.bd; simp only [numI, twoI]; omega)
      have e : jumpL [] 18 0 (nameB' (fNameL f)) = [.far ⟨18, 0, 0, 0, true, 0⟩ (nameB' (fNameL f))] := by unfold jumpL; rw [if_pos (by omega)]; rfl
      rw [e]
      unfold putL
      split
      · refine ⟨fun x nm hx => ?_, fun x hx => ?_, by simp⟩
        · simp at hx; rw [hx.1]; exact .inr rfl
        · simp at hx; rw [hx]; exact hb
      · refine ⟨fun x nm hx => ?_, fun x hx => ?_, by simp⟩
        · simp at hx; rw [hx.1]; exact .inr rfl
        · simp at hx
    · exact ⟨fun x nm hx => by simp at hx, fun x hx => by simp at hx, by simp⟩
  · exact ⟨fun x nm hx => by simp at hx, fun x hx => by simp at hx, by simp⟩
theorem llen_any {W w : World} {pa : Nat} {S : Nat → Prop} {L : List It} {M : List (List UInt8 × Int)} (h : LsAt W w pa S L M) :
    Calls Tryd.prog 18 #[.pointer (some ⟨pa, 0, none⟩)] w fun e w' => e = .returned (.int .i64 L.length) ∧ w = w' := by
  obtain ⟨sv, m, K, hA, _⟩ := h.lst.ex
  exact alen_made w pa m sv K L M hA
theorem LsAt.box {W w w' : World} {pa g : Nat} {S : Nat → Prop} {L : List It} {M : List (List UInt8 × Int)} (h : LsAt W w pa S L M) (o : Only (fun k => k = g) w w') (hg : W.heap.size ≤ g) (hS : ∀ k, S k → ¬ k = g) : LsAt W w' pa S L M := by
  have hb : Below W.heap.size w w' := o.below h.bel.size (fun k hk e => by omega)
  exact ⟨h.lst.keep o hS, h.tab.keepO o (fun k hk => by rw [hk]; exact hg), h.pow.keepB hb, h.bel.trans hb⟩
/-- What is known where a stub was put. -/
theorem stub_some {p : Prg} {th : Int} (h : stubE p th [] = 0) : ∃ (n f : Nat), th = n ∧ n < p.threads.length ∧ p.threads[n]? = some (f : Int) ∧ stubF p th = some f := by
  unfold stubE at h
  cases hs : stubF p th with
  | none => rw [hs] at h; simp at h
  | some f =>
    have h2 := hs
    unfold stubF at h2
    by_cases h0 : 0 ≤ th
    · rw [if_pos h0] at h2
      obtain ⟨n, rfl⟩ := Int.eq_ofNat_of_zero_le h0
      rw [Int.toNat_natCast] at h2
      cases ht : p.threads[n]? with
      | none => rw [ht] at h2; simp at h2
      | some t =>
        rw [ht] at h2
        simp only at h2
        by_cases h1 : 0 ≤ t ∧ t < p.funcs.length
        · rw [if_pos h1] at h2
          have : t.toNat = f := by simpa using h2
          exact ⟨n, f, rfl, (List.getElem?_eq_some_iff.1 ht).1, by rw [ht]; congr 1; omega, rfl⟩
        · rw [if_neg h1] at h2; simp at h2
    · rw [if_neg h0] at h2; simp at h2
/-- The box of the document's list behind the last mark. -/
def RD (w w' : World) (g : Nat) (pl : Option Addr) (nl cl : Nat) (M' : List (List UInt8 × Int)) : Prop :=
  ∃ p9 n9 c9, VRow w' g 60 [.slice pl nl cl, .slice p9 n9 c9] ∧ MarksAt w' (.slice p9 n9 c9) M' ∧ Only (fun k => k = g) w w' ∧ ∀ k, (Value.slice p9 n9 c9).ownBlock = some k → ¬ k = g
set_option maxRecDepth 100000 in
set_option maxHeartbeats 4000000 in
theorem walk_LowerStubs (p : Prg) {pt pf : Option Addr} {ct cf : Nat} (th : Int) (hth : I64 th) (w : World) (hp0 : PrgIn w (.agg #[.int .i64 p.heap, .slice pt p.threads.length ct, .slice pf p.funcs.length cf]) p) (ht : Tab w) (hpw : PowLo w.heap.size w) :
    Calls Tryd.prog 5 #[.agg #[.int .i64 p.heap, .slice pt p.threads.length ct, .slice pf p.funcs.length cf], .int .i64 th] w fun e w' => e = .returned (.bool true) ∧ Below w.heap.size w w' := by
  obtain ⟨W, hW⟩ : ∃ W, W = w.alloc (.cells #[.int .i64 p.heap, .slice pt p.threads.length ct, .slice pf p.funcs.length cf] 25) := ⟨_, rfl⟩
  have hbW : Below w.heap.size w W := by rw [hW]; exact (Below.refl _ _).alloc (Nat.le_refl _) _
  have b0 : W.cell? ⟨w.heap.size, 0, none⟩ = some (.int .i64 p.heap) := by rw [hW]; simp [go_sem]
  have b1 : W.cell? ⟨w.heap.size, 1, none⟩ = some (.slice pt p.threads.length ct) := by rw [hW]; simp [go_sem]
  have b2 : W.cell? ⟨w.heap.size, 2, none⟩ = some (.slice pf p.funcs.length cf) := by rw [hW]; simp [go_sem]
  have T := ahid (TabLo.start (ht.keep hbW) (Below.refl W.heap.size W))
  have P := ahid (show PowLo W.heap.size W from ⟨(hpw.keepB hbW).tab, Nat.lt_of_lt_of_le hpw.lo hbW.size⟩)
  have HP := ahid (hp0.keep hbW)
  have HB := ahid hbW
  have HKC := ahid (show ∀ w', Below W.heap.size W w' → w'.cell? ⟨w.heap.size, 0, none⟩ = some (.int .i64 p.heap) ∧ w'.cell? ⟨w.heap.size, 1, none⟩ = some (.slice pt p.threads.length ct) ∧ w'.cell? ⟨w.heap.size, 2, none⟩ = some (.slice pf p.funcs.length cf) from fun w' hd =>
    have z {a : Addr} {u : Value} (e : W.cell? a = some u) : w'.cell? a = some u := (hd.cell (World.block_lt_of_cell? _ _ e)).trans e
    ⟨z b0, z b1, z b2⟩)
  have HH := ahid (fun w' (hb : Below W.heap.size W w') => lhead_any w' (T.out.tab.keep hb) ⟨(P.out.keepB hb).tab, Nat.lt_of_lt_of_le P.out.lo hb.size⟩)
  have HI := ahid hth
  obtain ⟨e1, e2, e3⟩ := stubL_far p th
  have HSL := ahid (And.intro e1 (And.intro e2 e3))
  clear hbW ht hpw hp0 hth b0 b1 b2 e1 e2 e3
  have HCL := ahid (show ∀ w1 w2 : World, Below W.heap.size W w1 → Below w1.heap.size w1 w2 → Below w.heap.size w w2 from fun w1 w2 h1 h2 => HB.out.trans ((h1.trans (h2.mono h1.size)).mono HB.out.size))
  go_enter Tryd.func5, Tryd.ntmps5
  go_wp2_with fail
  rw [← hW]
  clear hW
  refine (great_none (Below.refl W.heap.size W) HP.out).mono ?_
  rintro e w1 ⟨⟨b, rfl⟩, hb1⟩
  obtain ⟨k0, k1, k2⟩ := HKC.out w1 hb1
  by_cases hbig : b = true ∨ 20 < p.threads.length
  · cases b
    all_goals
      first
        | (have hlen : (20 : Int) < (p.threads.length : Int) := by simp at hbig; omega)
        | skip
      clear hbig
      go_wp2_with fail
      refine (HH.out w1 hb1).mono ?_
      rintro e w2 ⟨rfl, hb2⟩
      go_wp2_with fail
      go_ret
      exact ⟨rfl, HCL.out _ _ hb1 hb2⟩
  have hbf : b = false := by cases b; rfl; exact absurd (.inl rfl) hbig
  subst hbf
  have hlen : ¬ (20 : Int) < (p.threads.length : Int) := by simp at hbig; omega
  clear hbig
  go_wp2_with fail
  refine (new_ls W w1 (T.out.keepb hb1) (P.out.keepB hb1) hb1).mono ?_
  rintro e w2 ⟨pa, Sa, rfl, ha, -, hb⟩
  have A := ahid ha
  clear ha hb k0 k1 k2 hb1
  obtain ⟨k0, k1, k2⟩ := HKC.out w2 A.out.bel
  go_wp2_with fail
  refine (stub_any A.out HP.out HI.out (by simp) (by unfold maxLen; simp)).mono ?_
  rintro e w3 ⟨rfl, S3, h3, -, -⟩
  replace A := ahid h3
  clear h3 k0 k1 k2
  obtain ⟨k0, k1, k2⟩ := HKC.out w3 A.out.bel
  go_wp2_with fail
  refine (rstub_any (HP.out.keep A.out.bel) HI.out).mono ?_
  rintro e w4 ⟨pl, nl, cl, pm, nm, cm, rfl, hnl, hit, hmk, hb, hnl1, hnm1⟩
  subst hnl
  have HNS := ahid (show (∀ k, (Value.slice pl (stubL p th [] []).length cl).ownBlock = some k → ¬ S3 k) ∧ ∀ k, (Value.slice pm nm cm).ownBlock = some k → ¬ S3 k from ⟨fun k hk h => by have := hnl1 k hk; have := (A.out.lst.lo k h).2; omega, fun k hk h => by have := hnm1 k hk; have := (A.out.lst.lo k h).2; omega⟩)
  clear hnl1 hnm1
  replace A := ahid (A.out.keepb hb)
  have HSG0 := ahid (show ∀ k, S3 k → ¬ k = w4.heap.size from fun k hk e => by have := (A.out.lst.lo k hk).2; omega)
  have HSG1 := ahid (show (∀ k, (Value.slice pl (stubL p th [] []).length cl).ownBlock = some k → ¬ k = w4.heap.size) ∧ ∀ k, (Value.slice pm nm cm).ownBlock = some k → ¬ k = w4.heap.size from ⟨fun k hk e => by have := row_lt hit k hk; omega, fun k hk e => by have := row_lt hmk k hk; omega⟩)
  have hgW : W.heap.size ≤ w4.heap.size := A.out.bel.size
  have HIT := ahid hit
  have HMK := ahid hmk
  clear hit hmk hb k0 k1 k2
  have hq := VRow.fresh w4 60 [.slice pl (stubL p th [] []).length cl, .slice pm nm cm]
  obtain ⟨w5, hw5⟩ : ∃ u, u = w4.alloc (.cells #[.slice pl (stubL p th [] []).length cl, .slice pm nm cm] 60) := ⟨_, rfl⟩
  have hb5 : Below w4.heap.size w4 w5 := by rw [hw5]; exact (Below.refl _ _).alloc (Nat.le_refl _) _
  go_wp2_with fail
  rw [← hw5] at hq ⊢
  clear hw5
  replace A := ahid (A.out.keepb hb5)
  replace HIT := ahid (show ItemsAt w5 (.slice pl (stubL p th [] []).length cl) (stubL p th [] []) from RowC.keep HIT.out hb5)
  replace HMK := ahid (show MarksAt w5 (.slice pm nm cm) (stubM p th [] []) from RowC.keep HMK.out hb5)
  clear hb5
  have HQ := ahid hq
  have q0 := hq.cell (k := 0) rfl
  have HSG := ahid (And.intro HSG0.out (And.intro HSG1.out hgW))
  clear hq HSG0 HSG1 hgW
  generalize w4.heap.size = g at *
  generalize hE : stubE p th [] = E at *
  have HE := ahid hE
  clear hE
  generalize hL1 : stubL p th [] [] = L1 at *
  generalize hM1 : stubM p th [] [] = M1 at *
  have HL1 := ahid hL1
  have HM1 := ahid hM1
  clear hL1 hM1
  have d0 : (E != E) = false := by simp
  have d1 : ((L1.length : Int) != (L1.length : Int)) = false := by simp
  have HLN := ahid (show ∀ n, Calls Tryd.prog 18 #[.pointer (some ⟨pa, 0, none⟩)] (w5.drewN n) fun e w'' => e = .returned (.int .i64 L1.length) ∧ ∃ m, w'' = w5.drewN m from fun n =>
    (llen_any (A.out.keepb (ldrewN (Below.refl w5.heap.size w5) n))).mono fun e w' ⟨he, hw⟩ => ⟨he, n, hw.symm⟩)
  go_quiet ((go_at_call 18; exact HLN.out _))
  have hb6 := ldrewN (Below.refl w5.heap.size w5) nq
  replace A := ahid (A.out.keepb hb6)
  replace HIT := ahid (show ItemsAt (w5.drewN nq) (.slice pl L1.length cl) L1 from RowC.keep HIT.out hb6)
  replace HMK := ahid (show MarksAt (w5.drewN nq) (.slice pm nm cm) M1 from RowC.keep HMK.out hb6)
  replace HQ := ahid (HQ.out.below hb6)
  clear hb6 q0 HLN d1
  generalize w5.drewN nq = w6 at *
  by_cases hz : E = 0
  rotate_left
  · have d2 : (E != 0) = true := by simpa using hz
    obtain ⟨k0, k1, k2⟩ := HKC.out w6 A.out.bel
    clear hz
    go_wp2_with fail
    refine stub_nil.mono ?_
    rintro e w7 ⟨rfl, hb7⟩
    have hb8 := A.out.bel.trans (hb7.mono A.out.bel.size)
    go_wp2_with fail
    refine (HH.out w7 hb8).mono ?_
    rintro e w8 ⟨rfl, hb9⟩
    go_wp2_with fail
    go_ret
    exact ⟨rfl, HCL.out _ _ hb8 hb9⟩
  have d2 : (E != 0) = false := by simp [hz]
  obtain ⟨k0, k1, k2⟩ := HKC.out w6 A.out.bel
  obtain ⟨n, f, rfl, hn, hk, hs⟩ := stub_some (HE.out.trans hz)
  have q9 : stubE p n M1 = 9 ∧ stubL p n L1 M1 = L1 ∧ stubM p n L1 M1 = M1 := by
    have hm : M1 = markM [] (nameB' (tNameL n)) 0 := by rw [← HM1.out]; unfold stubM; rw [hs]; rfl
    have h9 : markE M1 (nameB' (tNameL n)) = 9 := by rw [hm]; exact markE_again _ _ _
    refine ⟨?_, ?_, ?_⟩
    · unfold stubE; rw [hs]; simpa using h9
    · unfold stubL; rw [hs]; simp only [Int.toNat_natCast, h9]; rw [if_neg (by decide)]
    · unfold stubM; rw [hs]; simp only [Int.toNat_natCast]; unfold markM; rw [if_pos (by rw [hm]; exact look_set)]
  have hM1l : M1.length ≤ 1 := by rw [← HM1.out]; unfold stubM; rw [hs]; exact markM_len _ _ _
  have hM1b : ∀ e ∈ M1, 0 ≤ e.2 ∧ e.2 < 4294967296 := by
    rw [← HM1.out]; unfold stubM; rw [hs]; exact markM_bd (fun e he => by simp at he) _ (by simp)
  have hL1l := HSL.out.2.2
  have hPX := HP.out
  obtain ⟨⟨tv, fv, e, hthr, hfn⟩, -⟩ := hPX
  cases e
  obtain ⟨bt, ot, rfl, -, -, ht, htb⟩ := hthr.in hk
  rw [Nat.mul_one] at ht
  have HTC := ahid (show ∀ w', Below W.heap.size W w' → w'.cell? ⟨bt, ot + n, none⟩ = some (.int .i64 f) from fun w' hd => (hd.cell (World.block_lt_of_cell? _ _ ht)).trans ht)
  have hf63 : f < 9223372036854775808 := by unfold I64 at htb; omega
  clear ht htb hthr hfn hk hs
  have hF := stub_any A.out HP.out HI.out (by omega) (by unfold maxLen; omega)
  rw [q9.1, q9.2.1, q9.2.2] at hF
  have HF := ahid hF
  clear hF q9 hz
  have n0 : ¬ (n : Int) < 0 := by omega
  have n1 : (n : Int) < (p.threads.length : Int) := by omega
  have n2 : (0 : Int) ≤ (n : Int) := by omega
  go_wp2_with fail
  refine HF.out.mono ?_
  rintro e w7 ⟨rfl, S7, h7, o7, r7⟩
  have hS7 : ∀ k, S7 k → ¬ k = g := fun k hk e => by
    have hlt := HQ.out.lt
    rcases r7 k hk with h | h
    · exact HSG.out.1 k h e
    · omega
  have hgt := HQ.out.lt
  have hgn : ¬ S3 g := fun h => HSG.out.1 g h rfl
  replace HQ := ahid (HQ.out.of_block (o7.block g hgt hgn))
  have hIT : ItemsAt w7 (.slice pl L1.length cl) L1 := RowC.keepO HIT.out o7 HNS.out.1
  have hMK : MarksAt w7 (.slice pm nm cm) M1 := RowC.keepO HMK.out o7 HNS.out.2
  have hd7 : (∀ k, (Value.slice pl L1.length cl).ownBlock = some k → ¬ S7 k) ∧ ∀ k, (Value.slice pm nm cm).ownBlock = some k → ¬ S7 k := by
    refine ⟨fun k hk h => ?_, fun k hk h => ?_⟩
    · have := row_lt HIT.out k hk
      rcases r7 k h with h | h
      · exact HNS.out.1 k hk h
      · omega
    · have := row_lt HMK.out k hk
      rcases r7 k h with h | h
      · exact HNS.out.2 k hk h
      · omega
  have HS7 := ahid (And.intro hS7 hd7)
  have hb7 : Below W.heap.size W w7 := h7.bel
  replace A := ahid h7
  replace HIT := ahid hIT
  replace HMK := ahid hMK
  clear h7 o7 r7 hIT hMK hS7 hd7 HNS hgn k0 k1 k2
  obtain ⟨k0, k1, k2⟩ := HKC.out w7 hb7
  have ht7 := HTC.out w7 hb7
  clear hb7
  have HFL := ahid (lmark_of f hf63)
  have hfl := decl_len f hf63
  go_wp2_with fail
  refine (HFL.out w7).mono ?_
  rintro e w8 ⟨rfl, hb8⟩
  replace A := ahid (A.out.keepb hb8)
  replace HIT := ahid (show ItemsAt w8 (.slice pl L1.length cl) L1 from RowC.keep HIT.out hb8)
  replace HMK := ahid (show MarksAt w8 (.slice pm nm cm) M1 from RowC.keep HMK.out hb8)
  replace HQ := ahid (HQ.out.below hb8)
  clear hb8 k0 k1 k2 ht7 hgt
  go_wp2_with fail
  have hsz : (fNameL f).length ≤ maxLen := by unfold fNameL decL maxLen; simp only [List.length_cons]; omega
  refine (ls_mark A.out (nm := fNameL f) hsz (by unfold maxLen; omega) (by omega)).mono ?_
  rintro e w9 ⟨rfl, S9, h9, o9, r9⟩
  have hgt := HQ.out.lt
  have hS9 : ∀ k, S9 k → ¬ k = g := fun k hk e => by
    rcases r9 k hk with h | h
    · exact HS7.out.1 k h e
    · omega
  have hgn : ¬ S7 g := fun h => HS7.out.1 g h rfl
  replace HQ := ahid (HQ.out.of_block (o9.block g hgt hgn))
  replace HIT := ahid (show ItemsAt w9 (.slice pl L1.length cl) L1 from RowC.keepO HIT.out o9 HS7.out.2.1)
  replace HMK := ahid (show MarksAt w9 (.slice pm nm cm) M1 from RowC.keepO HMK.out o9 HS7.out.2.2)
  replace A := ahid h9
  have HS9 := ahid hS9
  clear h9 o9 r9 hS9 hgn hgt hsz HS7
  obtain ⟨k0, k1, k2⟩ := HKC.out w9 A.out.bel
  have ht9 := HTC.out w9 A.out.bel
  have q0 := HQ.out.cell (k := 0) rfl
  have q1 := HQ.out.cell (k := 1) rfl
  have z0 := HQ.out.frozen 0
  have z1 := HQ.out.frozen 1
  generalize hfn : nameB' (fNameL f) = nF at *
  have HFN := ahid hfn
  clear hfn
  have HC := ahid (show ∀ w', Below w9.heap.size w9 w' → w'.cell? ⟨g, 0, none⟩ = some (.slice pl L1.length cl) ∧ w'.cell? ⟨g, 1, none⟩ = some (.slice pm nm cm) ∧ w'.frozen? ⟨g, 0, none⟩ = false ∧ w'.frozen? ⟨g, 1, none⟩ = false ∧ w'.cell? ⟨w.heap.size, 1, none⟩ = some (.slice (some ⟨bt, ot, none⟩) p.threads.length ct) ∧ w'.cell? ⟨bt, ot + n, none⟩ = some (.int .i64 f) from fun w' hd => by
    have hv := HQ.out.below hd
    have hb := A.out.bel.trans (hd.mono A.out.bel.size)
    exact ⟨hv.cell (k := 0) rfl, hv.cell (k := 1) rfl, hv.frozen 0, hv.frozen 1, (HKC.out w' hb).2.1, HTC.out w' hb⟩)
  have HFM := ahid (HFL.out w9.drew)
  have HRM := ahid (fun w' (hd : Below w9.heap.size w9 w') => rmark_any w' pl L1.length cl (.slice pm nm cm) M1 (show MarksAt w' (.slice pm nm cm) M1 from RowC.keep HMK.out hd) nF (by omega))
  have hdr : Below w9.heap.size w9 w9.drew := (Below.refl _ _).drew
  go_wp2_with fail
  go_cut [] from 14 (fun w' => RD w9 w' g pl L1.length cl (markM M1 nF L1.length))
  case first =>
    go_region_law (first
      | (go_simp; go_at_call 11; refine HFM.out.mono ?_; rintro e Wa ⟨rfl, hba0⟩; have hba : Below w9.heap.size w9 Wa := hdr.trans hba0; obtain ⟨g0, g1, g2, g3, g4, g5⟩ := HC.out Wa hba)
      | (go_simp; go_at_call 19; refine (HRM.out _ hba).mono ?_; rintro e Wb ⟨mv', rfl, hmb, hbb0, hown⟩; obtain ⟨p9, n9, c9, rfl⟩ := hmb.shape; have hbb : Below w9.heap.size w9 Wb := hba.trans (hbb0.mono hba.size); obtain ⟨j0, j1, j2, j3, j4, j5⟩ := HC.out Wb hbb))
    all_goals
      have hx : ∀ k, (Value.slice p9 n9 c9).ownBlock = some k → ¬ k = g := fun k hk e => by
        have hgt := HQ.out.lt
        rcases hown k hk with h | h
        · exact HSG.out.2.1.2 k h e
        · have := hba.size; omega
      have HF9 := ahid (show RD w9 ((Wb.setCell ⟨g, 0, none⟩ (.slice pl L1.length cl)).setCell ⟨g, 1, none⟩ (.slice p9 n9 c9)) g pl L1.length cl (markM M1 nF L1.length) from
        ⟨p9, n9, c9, (HQ.out.below hbb).two _ _, row_put hmb hx _ _, ((Only.of_below (S := fun k => k = g) hbb).setCell (p := ⟨g, 0, none⟩) rfl _).setCell (p := ⟨g, 1, none⟩) rfl _, hx⟩)
      clear hx hown hmb hbb hbb0 hba hba0 g0 g1 g2 g3 g4 g5 q0 q1 z0 z1 k0 k1 k2 ht9 hdr
    all_goals
      go_wp2_with fail
      go_meet
      exact HF9.out
  case rest =>
    obtain ⟨p9, n9, c9, hq9, hm9, o9, hx9⟩ := hcut
    obtain ⟨wa, rfl⟩ : ∃ wa : World, wa = wc := ⟨_, rfl⟩
    have hgW := HSG.out.2.2
    replace A := ahid (A.out.box o9 hgW HS9.out)
    replace HIT := ahid (show ItemsAt wa (.slice pl L1.length cl) L1 from RowC.keepO HIT.out o9 HSG.out.2.1.1)
    replace HMK := ahid hm9
    replace HQ := ahid hq9
    have hM2 : ∀ nm t, look (markM M1 nF L1.length) nm = some t → 0 ≤ t ∧ t < 4294967296 := look_bd (markM_bd hM1b nF (by omega))
    have hM2l := markM_len M1 nF (L1.length : Int)
    clear hq9 hm9 o9 hx9 HC HFM HRM hdr q0 q1 z0 z1 k0 k1 k2 ht9 HS9 HSG HFL
    generalize hM2e : markM M1 nF L1.length = M2 at *
    have HM2 := ahid hM2
    clear hM2e hM2 hM1b
    go_wp2_with fail
    refine (ls_words A.out (by omega) HM2.out).mono ?_
    rintro e w11 ⟨v, l, rfl, hl, hv, hb, -⟩
    obtain ⟨pv, nv, cv, rfl⟩ := hv.shape'
    replace A := ahid (A.out.keepb hb)
    replace HIT := ahid (show ItemsAt w11 (.slice pl L1.length cl) L1 from RowC.keep HIT.out hb)
    replace HMK := ahid (show MarksAt w11 (.slice p9 n9 c9) M2 from RowC.keep HMK.out hb)
    replace HQ := ahid (HQ.out.below hb)
    have HV := ahid hv
    have HLL := ahid hl
    clear hb hv hl
    have q0 := HQ.out.cell (k := 0) rfl
    have q1 := HQ.out.cell (k := 1) rfl
    have HW := ahid (rwords_any w11 (.slice pl L1.length cl) p9 n9 c9 L1 M2 HIT.out HMK.out HSL.out.1 HSL.out.2.1 (by omega) (by unfold maxLen; omega) HM2.out)
    go_wp2_with fail
    refine HW.out.mono ?_
    rintro e w12 ⟨v2, l2, rfl, hl2, ho2, hb⟩
    have hv2 := Reads32.of_own ho2
    obtain ⟨pv2, nv2, cv2, rfl⟩ := hv2.shape'
    have hll : l = l2 := HLL.out.trans hl2.symm
    have hF := same_any w12 _ _ _ _ (HV.out.keepb hb) hv2
    rw [decide_eq_true hll] at hF
    have HF := ahid hF
    have hb12 : Below W.heap.size W w12 := A.out.bel.trans (hb.mono A.out.bel.size)
    clear hF hll hl2 ho2 hb hv2 q0 q1 HW
    generalize wordsE M2 0 L1 = WE at *
    have d3 : (WE == WE) = true := by simp
    go_wp2_with fail
    refine HF.out.mono ?_
    rintro e w13 ⟨rfl, hb⟩
    have hb13 : Below W.heap.size W w13 := hb12.trans (hb.mono hb12.size)
    go_wp2_with fail
    refine (HH.out w13 hb13).mono ?_
    rintro e w14 ⟨rfl, hb14⟩
    go_wp2_with fail
    go_ret
    exact ⟨rfl, HCL.out _ _ hb13 hb14⟩
theorem walk_LowerStubsV (q : Prg) (hq : I64 q.heap) (v : Value) (w : World) (hv : PrgV' w v q) (th : Int) (hth : I64 th) (ht : Tab w) (hpw : PowLo w.heap.size w) :
    Calls Tryd.prog 5 #[v, .int .i64 th] w fun e w' => e = .returned (.bool true) ∧ Below w.heap.size w w' := by
  obtain ⟨pt, ct, pf, cf, rfl, h1, h2⟩ := hv
  exact walk_LowerStubs q th hth w ⟨⟨_, _, rfl, h1, h2⟩, hq⟩ ht hpw
end Go.Proofs.YtfbbodaapkfbdaaDoor
