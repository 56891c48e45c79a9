/- Several texts in one: FlatRuns, FlatTwo, FlatGreat, FlatComes, FlatKnown. -/
import Derived.Test.YtdefooailcbnlaaG45
import Derived.Test.YtdefooailcbnlaaG43
import Derived.Test.YtdefooailcbnlaaG09
import Derived.Test.YtdefooailcbnlaaG22
/- The walks of flat.Run; what New, Run, Outcome come to for a program that is read. -/
namespace Go.Proofs.Ytdefooailcbnlaa
open Go.RowKit Go.Deep
set_option linter.unusedVariables false
set_option linter.unusedSimpArgs false
theorem prgOk_of {w : World} {v : Value} {p : Prg} (hF : FnsIn w v p.funcs) (he : (checkS p).2.2 = 0) : PrgOk p := by
  have key : ∀ (g : Fr) y, insOf p g = some y → y.bd ∧ g.i < 140737488355328 := by
    intro g y hy
    obtain ⟨fn, b, h1, h2, h3⟩ := insOf_some hy
    obtain ⟨_, _, _, fb, fo, _, _, hf⟩ := hF
    obtain ⟨_, _, _, ⟨bv, _, hB⟩, _, _, _⟩ := hf _ _ h1
    obtain ⟨_, _, _, bb, bo, _, _, hb⟩ := hB
    obtain ⟨_, ⟨iv, _, hI⟩, _⟩ := hb _ _ h2
    obtain ⟨hil, _, _, ib, io, _, _, hi⟩ := hI
    have := (List.getElem?_eq_some_iff.1 h3).1
    exact ⟨(hi _ _ h3).bd, by omega⟩
  refine ⟨good_of he, fun f x hx => ?_, fun g y hy => (key g y hy).2⟩
  have hb := (key f x hx).1
  unfold Insx.bd at hb
  exact ⟨hb.2.2.2.2.1, hb.1.1⟩
/-- What a program comes to. -/
def fin16 (p : Prg) (ch : List Int) (F : Nat) : Mdl := if (checkS p).2.2 = 0 then run p F (newS p ch) else ⟨[], [], [], 0, [], 0, 0⟩
theorem fin_yes {p : Prg} {ch : List Int} {F : Nat} (h : (checkS p).2.2 = 0) : fin16 p ch F = run p F (newS p ch) := if_pos h
theorem fin_no {p : Prg} {ch : List Int} {F : Nat} (h : (checkS p).2.2 ≠ 0) : fin16 p ch F = ⟨[], [], [], 0, [], 0, 0⟩ := if_neg h
/-- Of the old blocks only those of a model changed, and these are new: none changed. -/
theorem Goes.old {w0 w w' : World} {p : Prg} {G : Gh} {m : Nat} {s : Mdl} (h : Goes w p G m s w') (hs : w0.heap.size ≤ w.heap.size) (hG : ∀ k, G.R k ≠ .none → w0.heap.size ≤ k) : Below w0.heap.size w w' := by
  obtain ⟨_, _, o, _⟩ := h
  refine o.below hs (fun k hk hc => ?_)
  have := hG k hc.1
  omega
theorem Goes.lo {w0 w w' : World} {p : Prg} {G : Gh} {m : Nat} {s : Mdl} (h : Goes w p G m s w') (hs : w0.heap.size ≤ w.heap.size) (hG : ∀ k, G.R k ≠ .none → w0.heap.size ≤ k) : ∃ G', MdlAt w' p G' m s ∧ (∀ k, G'.R k ≠ .none → w0.heap.size ≤ k) ∧ Below w0.heap.size w w' := by
  have hb := h.old hs hG
  obtain ⟨G', h1, _, h2⟩ := h
  refine ⟨G', h1, fun k hk => ?_, hb⟩
  rcases Nat.lt_or_ge k w.heap.size with hl | hl
  · rw [h2 k hl] at hk; exact hG k hk
  · omega
set_option maxRecDepth 100000 in
set_option maxHeartbeats 2000000 in
theorem frun_any (w : World) (p : Prg) (pt : Option Addr) (ct : Nat) (pf : Option Addr) (cf : Nat) (cv : Value) (ch : List Int) (hT : IntsIn w (.slice pt p.threads.length ct) p.threads) (hF : FnsIn w (.slice pf p.funcs.length cf) p.funcs) (hc : Reads32 w cv ch) (hcw : Words ch) (hcl : ch.length ≤ 1048576) (hnil : ∀ c n, cv = .slice none n c → c = 0) (F : Nat) (hFl : F ≤ 1000) :
    Calls Try.prog 10 #[.agg #[.int .i64 p.heap, .slice pt p.threads.length ct, .slice pf p.funcs.length cf], cv, .int .i64 F] w fun e w' => ∃ v, e = .returned (.tuple #[v, .int .i64 (checkS p).2.2]) ∧ OutS w.heap.size w' v (fin16 p ch F).out (fin16 p ch F).kind (fin16 p ch F).v (fin16 p ch F).heap ∧ Below w.heap.size w w' := by
  have hb : Below w.heap.size w ((w.alloc (.cells #[.int .i64 p.heap, .slice pt p.threads.length ct, .slice pf p.funcs.length cf] 25)).alloc (.cells #[.slice none 0 0, .int .u8 0, .int .u32 0, .slice none 0 0] 35)) := ((Below.refl _ _).alloc (Nat.le_refl _) _).alloc (by simp) _
  have hP := (vrow_new w #[.int .i64 p.heap, .slice pt p.threads.length ct, .slice pf p.funcs.length cf] 25).alloc (.cells #[.slice none 0 0, .int .u8 0, .int .u32 0, .slice none 0 0] 35)
  have hO := vrow_new (w.alloc (.cells #[.int .i64 p.heap, .slice pt p.threads.length ct, .slice pf p.funcs.length cf] 25)) #[.slice none 0 0, .int .u8 0, .int .u32 0, .slice none 0 0] 35
  rw [World.size_alloc] at hO
  have hsz : ((w.alloc (.cells #[.int .i64 p.heap, .slice pt p.threads.length ct, .slice pf p.funcs.length cf] 25)).alloc (.cells #[.slice none 0 0, .int .u8 0, .int .u32 0, .slice none 0 0] 35)).heap.size = w.heap.size + 2 := by simp
  have HB := fhid hb
  have HP := fhid hP
  have HO := fhid hO
  have HSZ := fhid hsz
  have HT := fhid hT
  have HF := fhid hF
  have HC := fhid (And.intro hc (And.intro hcw (And.intro hcl hnil)))
  have HFL := fhid hFl
  clear hb hP hO hsz hT hF hc hcw hcl hnil hFl
  rcases Classical.em ((checkS p).2.2 = 0) with he | he
  · have HE := fhid he
    have HFY := fhid (fin_yes (ch := ch) (F := F) he)
    rw [he]
    clear he
    go_enter Try.func10, Try.ntmps10
    go_wp2_with fail
    generalize ((w.alloc (.cells #[.int .i64 p.heap, .slice pt p.threads.length ct, .slice pf p.funcs.length cf] 25)).alloc (.cells #[.slice none 0 0, .int .u8 0, .int .u32 0, .slice none 0 0] 35)) = W0 at *
    have c0 := HP.out.cell (k := 0) rfl
    have c1 := HP.out.cell (k := 1) rfl
    have c2 := HP.out.cell (k := 2) rfl
    go_wp2_with fail
    refine (new_any W0 p pt ct pf cf cv ch (IntsIn.keep HT.out HB.out) (FnsIn.keep HF.out HB.out) (HC.out.1.keepb HB.out) HC.out.2.2.1 HC.out.2.2.2 HE.out).mono ?_
    rintro e w1 ⟨m, G, rfl, hM, hlo, hb1⟩
    have HM := fhid (And.intro hM (And.intro hlo hb1))
    clear hM hlo hb1 c0 c1 c2
    go_wp2_with fail
    refine (mrun_any (prgOk_of HF.out HE.out) (mnew_ok (prgOk_of HF.out HE.out).good HC.out.2.1) F (by have := HFL.out; omega) w1 G m HM.out.1).mono ?_
    rintro e w2 ⟨rfl, hgo⟩
    have hg2 := hgo.lo HM.out.2.2.size HM.out.2.1
    have HG := fhid hg2
    clear hgo hg2
    obtain ⟨G2, hM2, hlo2, hb2⟩ := HG.out
    have hok := mrun_ok (prgOk_of HF.out HE.out).good (prgOk_of HF.out HE.out).words (mnew_ok (prgOk_of HF.out HE.out).good HC.out.2.1) F
    have HOC := fhid (outcome_any w2 p G2 m _ hM2 (by have := hok.ol; have := HFL.out; omega) (by have := hok.heap; have := (prgOk_of HF.out HE.out).good.heap; omega))
    have HBB := fhid (show Below W0.heap.size W0 w2 from HM.out.2.2.trans hb2)
    clear hM2 hlo2 hb2 hok HG
    go_wp2_with fail
    refine HOC.out.mono ?_
    rintro e w3 ⟨v, rfl, hov, hb3⟩
    have HO3 := fhid hov
    obtain ⟨p1, n1, q1, p2, n2, q2, rfl, _, _⟩ := hov.here
    have hbb := HBB.out.trans (hb3.mono HBB.out.size)
    have HB3 := fhid hbb
    have hbx := HO.out.below hbb
    have HX := fhid hbx
    have f0 := hbx.frozen 0
    have f1 := hbx.frozen 1
    have f2 := hbx.frozen 2
    have f3 := hbx.frozen 3
    have x0 := hbx.cell (k := 0) rfl
    have x1 := hbx.cell (k := 1) rfl
    have x2 := hbx.cell (k := 2) rfl
    have x3 := hbx.cell (k := 3) rfl
    clear hb3 hbb hbx HOC
    go_wp2_with fail
    have h9 := (((HX.out.set (k := 0) (by simp) (.slice p1 n1 q1)).set (k := 1) (by simp) (.int .u8 (run p F (newS p ch)).kind)).set (k := 2) (by simp) (.int .u32 (run p F (newS p ch)).v)).set (k := 3) (by simp) (.slice p2 n2 q2)
    simp only [List.set_cons_zero, List.set_cons_succ] at h9
    have o9 : Only (fun k => k = w.heap.size + 1) w3 ((((w3.setCell ⟨w.heap.size + 1, 0, none⟩ (.slice p1 n1 q1)).setCell ⟨w.heap.size + 1, 1, none⟩ (.int .u8 (run p F (newS p ch)).kind)).setCell ⟨w.heap.size + 1, 2, none⟩ (.int .u32 (run p F (newS p ch)).v)).setCell ⟨w.heap.size + 1, 3, none⟩ (.slice p2 n2 q2)) := ((((Only.refl (fun k => k = w.heap.size + 1) w3).setCell (p := ⟨w.heap.size + 1, 0, none⟩) rfl _).setCell (p := ⟨w.heap.size + 1, 1, none⟩) rfl _).setCell (p := ⟨w.heap.size + 1, 2, none⟩) rfl _).setCell (p := ⟨w.heap.size + 1, 3, none⟩) rfl _
    generalize ((((w3.setCell ⟨w.heap.size + 1, 0, none⟩ (.slice p1 n1 q1)).setCell ⟨w.heap.size + 1, 1, none⟩ (.int .u8 (run p F (newS p ch)).kind)).setCell ⟨w.heap.size + 1, 2, none⟩ (.int .u32 (run p F (newS p ch)).v)).setCell ⟨w.heap.size + 1, 3, none⟩ (.slice p2 n2 q2)) = W9 at h9 o9 ⊢
    have r0 := h9.cell (k := 0) rfl
    have r1 := h9.cell (k := 1) rfl
    have r2 := h9.cell (k := 2) rfl
    have r3 := h9.cell (k := 3) rfl
    have hb9 : Below w.heap.size w W9 := (HB.out.trans (HB3.out.mono HB.out.size)).trans (o9.below (Nat.le_trans HB.out.size HB3.out.size) (fun k hk e => by omega))
    have hs2 := HBB.out.size
    have hsz := HSZ.out
    refine bodyPost_ret (v := .tuple #[.agg #[.slice p1 n1 q1, .int .u8 (run p F (newS p ch)).kind, .int .u32 (run p F (newS p ch)).v, .slice p2 n2 q2], .int .i64 0]) (by simp [results, Try.results10, go_sem, r0, r1, r2, r3]; try rfl) rfl ⟨_, rfl, ?_, hb9⟩
    rw [HFY.out]
    refine ⟨fun W hW => ?_, HO3.out.2⟩
    refine HO3.out.1 W ⟨hW.os.trans o9.os, hW.tape.trans o9.tape, hW.output.trans o9.output, Nat.le_trans o9.size hW.size, fun k hk hn => ?_⟩
    exact (hW.block k (Nat.lt_of_lt_of_le hk o9.size) (by omega)).trans (o9.block k hk (by omega))
  · have HE := fhid (And.intro he (checkS_err he))
    have HFN := fhid (fin_no (ch := ch) (F := F) he)
    rw [checkS_err he]
    clear he
    go_enter Try.func10, Try.ntmps10
    go_wp2_with fail
    generalize ((w.alloc (.cells #[.int .i64 p.heap, .slice pt p.threads.length ct, .slice pf p.funcs.length cf] 25)).alloc (.cells #[.slice none 0 0, .int .u8 0, .int .u32 0, .slice none 0 0] 35)) = W0 at *
    have c0 := HP.out.cell (k := 0) rfl
    have c1 := HP.out.cell (k := 1) rfl
    have c2 := HP.out.cell (k := 2) rfl
    go_wp2_with fail
    refine (new_bad W0 p pt ct pf cf cv (IntsIn.keep HT.out HB.out) (FnsIn.keep HF.out HB.out) HE.out.2).mono ?_
    rintro e w1 ⟨rfl, hb1⟩
    have hbx := HO.out.below hb1
    have HX := fhid hbx
    have HB1 := fhid hb1
    have f0 := hbx.frozen 0
    have f1 := hbx.frozen 1
    have f2 := hbx.frozen 2
    have f3 := hbx.frozen 3
    have x0 := hbx.cell (k := 0) rfl
    have x1 := hbx.cell (k := 1) rfl
    have x2 := hbx.cell (k := 2) rfl
    have x3 := hbx.cell (k := 3) rfl
    clear hbx hb1 c0 c1 c2
    go_wp2_with fail
    have h9 := (((HX.out.set (k := 0) (by simp) (.slice none 0 0)).set (k := 1) (by simp) (.int .u8 0)).set (k := 2) (by simp) (.int .u32 0)).set (k := 3) (by simp) (.slice none 0 0)
    simp only [List.set_cons_zero, List.set_cons_succ] at h9
    have o9 : Only (fun k => k = w.heap.size + 1) w1 ((((w1.setCell ⟨w.heap.size + 1, 0, none⟩ (.slice none 0 0)).setCell ⟨w.heap.size + 1, 1, none⟩ (.int .u8 0)).setCell ⟨w.heap.size + 1, 2, none⟩ (.int .u32 0)).setCell ⟨w.heap.size + 1, 3, none⟩ (.slice none 0 0)) := ((((Only.refl (fun k => k = w.heap.size + 1) w1).setCell (p := ⟨w.heap.size + 1, 0, none⟩) rfl _).setCell (p := ⟨w.heap.size + 1, 1, none⟩) rfl _).setCell (p := ⟨w.heap.size + 1, 2, none⟩) rfl _).setCell (p := ⟨w.heap.size + 1, 3, none⟩) rfl _
    generalize ((((w1.setCell ⟨w.heap.size + 1, 0, none⟩ (.slice none 0 0)).setCell ⟨w.heap.size + 1, 1, none⟩ (.int .u8 0)).setCell ⟨w.heap.size + 1, 2, none⟩ (.int .u32 0)).setCell ⟨w.heap.size + 1, 3, none⟩ (.slice none 0 0)) = W9 at h9 o9 ⊢
    have r0 := h9.cell (k := 0) rfl
    have r1 := h9.cell (k := 1) rfl
    have r2 := h9.cell (k := 2) rfl
    have r3 := h9.cell (k := 3) rfl
    have hb9 : Below w.heap.size w W9 := (HB.out.trans (HB1.out.mono HB.out.size)).trans (o9.below (Nat.le_trans HB.out.size HB1.out.size) (fun k hk e => by omega))
    refine bodyPost_ret (v := .tuple #[.agg #[.slice none 0 0, .int .u8 0, .int .u32 0, .slice none 0 0], .int .i64 140]) (by simp [results, Try.results10, go_sem, r0, r1, r2, r3]; try rfl) rfl ⟨_, rfl, ?_, hb9⟩
    rw [HFN.out]
    refine ⟨fun W hW => ?_, fun _ _ _ _ _ _ e => by cases e; exact ⟨Nat.le_refl _, fun _ => ⟨rfl, rfl⟩⟩⟩
    have hz : Reads32 W (.slice none 0 0) [] := ⟨by simp [maxLen], _, _, rfl, fun h => by simp at h⟩
    exact ⟨_, _, _, _, _, _, rfl, hz, hz⟩
end Go.Proofs.Ytdefooailcbnlaa
/- Two models side by side; what a run's output is. No function of the program is walked here. -/
namespace Go.Proofs.Ytdefooailcbnlaa
open Go.RowKit
set_option linter.unusedVariables false
set_option linter.unusedSimpArgs false
/-- Two models, whose ghosts were A0 and B0 in the world w0: since then only blocks of theirs changed. -/
structure Both (w0 : World) (p : Prg) (A0 B0 : Gh) (w : World) (A : Gh) (a : Nat) (s : Mdl) (B : Gh) (b : Nat) (t : Mdl) : Prop where
  l : MdlAt w p A a s
  r : MdlAt w p B b t
  d : ∀ k, A.R k = .none ∨ B.R k = .none
  o : Only (fun k => A0.R k ≠ .none ∨ B0.R k ≠ .none) w0 w
  e : ∀ k, k < w0.heap.size → A.R k = A0.R k ∧ B.R k = B0.R k
section
variable {w0 w w' : World} {p : Prg} {A0 B0 A B : Gh} {a b : Nat} {s t s' t' : Mdl}
theorem Both.left (h : Both w0 p A0 B0 w A a s B b t) (g : Goes w p A a s' w') : ∃ A', Both w0 p A0 B0 w' A' a s' B b t := by
  obtain ⟨A', h1, o1, r1⟩ := g
  have hd : ∀ k, A'.R k = .none ∨ B.R k = .none := fun k => by
    rcases Nat.lt_or_ge k w.heap.size with hk | hk
    · rw [r1 k hk]; exact h.d k
    · refine .inr ?_
      cases hq : B.R k with
      | none => rfl
      | _ => exact absurd (h.r.lt k (by rw [hq]; simp)) (by omega)
  refine ⟨A', h1, h.r.keep o1 (fun k hk hc => ?_), hd, h.o.fresh o1 (fun k hk hc => .inl ?_), fun k hk => ⟨(r1 k (Nat.lt_of_lt_of_le hk h.o.size)).trans (h.e k hk).1, (h.e k hk).2⟩⟩
  · rcases h.d k with e | e
    · exact hc.1 e
    · exact hk e
  · rw [← (h.e k hk).1]; exact hc.1
theorem Both.right (h : Both w0 p A0 B0 w A a s B b t) (g : Goes w p B b t' w') : ∃ B', Both w0 p A0 B0 w' A a s B' b t' := by
  obtain ⟨B', h1, o1, r1⟩ := g
  have hd : ∀ k, A.R k = .none ∨ B'.R k = .none := fun k => by
    rcases Nat.lt_or_ge k w.heap.size with hk | hk
    · rw [r1 k hk]; exact h.d k
    · refine .inl ?_
      cases hq : A.R k with
      | none => rfl
      | _ => exact absurd (h.l.lt k (by rw [hq]; simp)) (by omega)
  refine ⟨B', h.l.keep o1 (fun k hk hc => ?_), h1, hd, h.o.fresh o1 (fun k hk hc => .inr ?_), fun k hk => ⟨(h.e k hk).1, (r1 k (Nat.lt_of_lt_of_le hk h.o.size)).trans (h.e k hk).2⟩⟩
  · rcases h.d k with e | e
    · exact hk e
    · exact hc.1 e
  · rw [← (h.e k hk).2]; exact hc.1
theorem Both.below (h : Both w0 p A0 B0 w A a s B b t) (hb : Below w.heap.size w w') : Both w0 p A0 B0 w' A a s B b t :=
  ⟨h.l.keepb hb, h.r.keepb hb, h.d, h.o.fresh (Only.of_below (S := fun _ => False) hb) (fun _ _ hf => hf.elim), h.e⟩
theorem Both.start (h1 : MdlAt w p A a s) (h2 : MdlAt w p B b t) (hd : ∀ k, A.R k = .none ∨ B.R k = .none) : Both w p A B w A a s B b t := ⟨h1, h2, hd, Only.refl _ _, fun _ _ => ⟨rfl, rfl⟩⟩
/-- What is no model's stays. -/
theorem Both.old (h : Both w0 p A0 B0 w A a s B b t) {B0' : Nat} (hB : B0' ≤ w0.heap.size) (hn : ∀ k, k < B0' → A0.R k = .none ∧ B0.R k = .none) : Below B0' w0 w := h.o.below hB (fun k hk hc => by
  rcases hc with e | e
  · exact e (hn k hk).1
  · exact e (hn k hk).2)
theorem Both.free (h : Both w0 p A0 B0 w A a s B b t) {k : Nat} (hk : k < w0.heap.size) (h1 : A0.R k = .none) (h2 : B0.R k = .none) : w.heap[k]? = w0.heap[k]? := h.o.block k hk (fun hc => by
  rcases hc with e | e
  · exact e h1
  · exact e h2)
end
theorem role_none {w : World} {p : Prg} {G : Gh} {m : Nat} {s : Mdl} (h : MdlAt w p G m s) {k : Nat} (hk : w.heap.size ≤ k) : G.R k = .none := by
  cases hq : G.R k with
  | none => rfl
  | _ => exact absurd (h.lt k (by rw [hq]; simp)) (by omega)
/-- The output only grows. -/
theorem choose_out (s : Mdl) : (choose s).out = s.out := rfl
theorem ret_out (p : Prg) (s : Mdl) (up : List Fr) (v : Int) : (retS p s up v).out = s.out := by
  unfold retS
  split
  · rfl
  · split <;> rfl
theorem act_out (p : Prg) (s : Mdl) (up : List Fr) (f : Fr) (x : Insx) : ∃ l, (actS p s up f x).out = s.out ++ l := by
  unfold actS
  dsimp only
  by_cases h0 : x.op = 0
  · rw [if_pos h0]
    exact ⟨[], (List.append_nil _).symm⟩
  rw [if_neg h0]
  by_cases h1 : x.op = 1
  · rw [if_pos h1]
    split <;> exact ⟨[], (List.append_nil _).symm⟩
  rw [if_neg h1]
  by_cases h2 : x.op = 2
  · rw [if_pos h2]
    exact ⟨[], (List.append_nil _).symm⟩
  rw [if_neg h2]
  by_cases h3 : x.op = 3
  · rw [if_pos h3]
    split <;> exact ⟨[], (List.append_nil _).symm⟩
  rw [if_neg h3]
  by_cases h4 : x.op = 4
  · rw [if_pos h4]
    split <;> exact ⟨[], (List.append_nil _).symm⟩
  rw [if_neg h4]
  by_cases h5 : x.op = 5
  · rw [if_pos h5]
    exact ⟨[], (List.append_nil _).symm⟩
  rw [if_neg h5]
  by_cases h6 : x.op = 6
  · rw [if_pos h6]
    exact ⟨_, rfl⟩
  rw [if_neg h6]
  by_cases h7 : x.op = 7
  · rw [if_pos h7]
    exact ⟨[], (List.append_nil _).symm⟩
  rw [if_neg h7]
  by_cases h8 : x.op = 8
  · rw [if_pos h8]
    exact ⟨[], (List.append_nil _).symm⟩
  rw [if_neg h8]
  by_cases h9 : x.op = 9
  · rw [if_pos h9]
    exact ⟨[], (List.append_nil _).symm⟩
  rw [if_neg h9]
  exact ⟨[], by rw [ret_out, List.append_nil]⟩
theorem step_out (p : Prg) (s : Mdl) : ∃ l, (step p s).out = s.out ++ l := by
  unfold step
  split
  · exact ⟨[], (List.append_nil _).symm⟩
  · split
    · exact ⟨[], (List.append_nil _).symm⟩
    · split
      · exact ⟨[], (List.append_nil _).symm⟩
      · exact act_out _ _ _ _ _
theorem run_out (p : Prg) : ∀ (n : Nat) (s : Mdl), ∃ l, (run p n s).out = s.out ++ l
  | 0, s => ⟨[], (List.append_nil _).symm⟩
  | n + 1, s => by
    rw [run_one]
    split
    · obtain ⟨l, hl⟩ := step_out p s
      obtain ⟨l2, hl2⟩ := run_out p n (step p s)
      exact ⟨l ++ l2, by rw [hl2, hl, List.append_assoc]⟩
    · exact ⟨[], (List.append_nil _).symm⟩
theorem out_take (p : Prg) (n k : Nat) (s : Mdl) : (run p (n + k) s).out.take (run p n s).out.length = (run p n s).out ∧ (run p n s).out.length ≤ (run p (n + k) s).out.length := by
  obtain ⟨l, hl⟩ := run_out p k (run p n s)
  rw [run_add, hl]
  exact ⟨by simp, by simp⟩
end Go.Proofs.Ytdefooailcbnlaa
/- The walks of muntinlaw16.great, prog, comes. -/
namespace Go.Proofs.Ytdefooailcbnlaa
open Go.RowKit Go.Deep
set_option linter.unusedVariables false
set_option linter.unusedSimpArgs false
def GreatP (p : Prg) (w : World) (e : Ending) (w' : World) : Prop := ∃ b : Bool, e = .returned (.bool b) ∧ (b = false → ∀ x ∈ p.funcs, x.regs ≤ 60) ∧ Below w.heap.size w w'
set_option maxRecDepth 100000 in
set_option maxHeartbeats 4000000 in
theorem great16_any (p : Prg) (pt : Option Addr) (ct : Nat) (pf : Option Addr) (cf : Nat) (w : World) (hF : FnsIn w (.slice pf p.funcs.length cf) p.funcs) :
    Calls Try.prog 8 #[.agg #[.int .i64 p.heap, .slice pt p.threads.length ct, .slice pf p.funcs.length cf]] w (GreatP p w) := by
  have hb : Below w.heap.size w (w.alloc (.cells #[.int .i64 p.heap, .slice pt p.threads.length ct, .slice pf p.funcs.length cf] 25)) := (Below.refl _ _).alloc (Nat.le_refl _) _
  have hP := vrow_new w #[.int .i64 p.heap, .slice pt p.threads.length ct, .slice pf p.funcs.length cf] 25
  have HP := fhid hP
  have HB := fhid hb
  have hF0 := FnsIn.keep hF hb
  have HG := fhid (great_any p pt ct pf cf _ hF0)
  have HF := fhid hF0
  have hfl := hF.1
  clear hF hb hP hF0
  go_enter Try.func8, Try.ntmps8
  go_wp2_with fail
  generalize w.alloc (.cells #[.int .i64 p.heap, .slice pt p.threads.length ct, .slice pf p.funcs.length cf] 25) = W0 at *
  have c0 := HP.out.cell (k := 0) rfl
  have c1 := HP.out.cell (k := 1) rfl
  have c2 := HP.out.cell (k := 2) rfl
  go_wp2_with fail
  refine HG.out.mono ?_
  rintro e w1 ⟨b, rfl, hb1⟩
  cases b with
  | true =>
    have HBB := fhid (HB.out.trans (hb1.mono HB.out.size))
    clear hb1 c0 c1 c2
    go_wp2_with fail
    go_ret
    exact ⟨true, rfl, fun h => by simp at h, HBB.out⟩
  | false =>
    have HBB := fhid (HB.out.trans (hb1.mono HB.out.size))
    have hF1 := FnsIn.keep HF.out hb1
    have c2' := (HP.out.below hb1).cell (k := 2) rfl
    obtain ⟨_, pf1, cf1, fb, fo, hfe, ⟨hfp, _⟩, hfa⟩ := hF1
    cases hfe
    have HFA := fhid hfa
    clear hb1 c0 c1 c2 hfa HP
    go_wp2_with fail
    go_loop [3] (fun i => ∃ k : Nat, k ≤ p.funcs.length ∧ i = .int .i64 k ∧ ∀ x ∈ p.funcs.take k, x.regs ≤ 60) (fun i => p.funcs.length - (intOf i).toNat)
    case atStart => exact ⟨0, Nat.zero_le _, rfl, by simp⟩
    case round =>
      obtain ⟨k, hk, rfl, hall⟩ := hrel
      have HA := fhid hall
      clear hall
      by_cases hlt : k < p.funcs.length
      · obtain rfl := hfp (by omega)
        have hx := List.getElem?_eq_getElem hlt
        have hta : p.funcs.take (k + 1) = p.funcs.take k ++ [p.funcs[k]] := List.take_succ_eq_append_getElem hlt
        have HX := fhid hta
        have HXG := fhid (List.getElem_mem hlt)
        obtain ⟨_, _, d2, _, _, _, _⟩ := HFA.out k _ hx
        generalize p.funcs[k] = x at *
        have hnl : (k : Int) < p.funcs.length := by omega
        have e1 : IntKind.i64.wrap ((k : Int) + 1) = ((k + 1 : Nat) : Int) := by rw [IntWalk.i64_in _ (by omega)]; omega
        clear hx hta
        by_cases h60 : 60 < x.regs
        · go_wp2_with fail
          go_ret
          exact ⟨true, rfl, fun h => by simp at h, HBB.out⟩
        · have hnr : ¬ x.regs > 60 := h60
          have hd : decide (x.regs > 60) = false := decide_eq_false h60
          have hd2 : decide (60 < x.regs) = false := decide_eq_false h60
          go_wp2_with fail
          refine ⟨⟨k + 1, by omega, by go_num, fun y hy => ?_⟩, by simp [intOf]; omega⟩
          rw [HX.out] at hy
          rcases List.mem_append.1 hy with h | h
          · exact HA.out y h
          · simp only [List.mem_singleton] at h
            subst h; omega
      · obtain rfl : k = p.funcs.length := by omega
        go_wp2_with fail
        go_ret
        refine ⟨false, rfl, fun _ x hx => HA.out x ?_, HBB.out⟩
        rw [List.take_length]; exact hx
/-- A program just made: its rows have no room. -/
structure Made (w0 w : World) (v : Value) (heap regs : Int) (l : List Insx) : Prop where
  ex : ∃ gT gF, v = .agg #[.int .i64 heap, .slice (some ⟨gT, 0, none⟩) 1 1, .slice (some ⟨gF, 0, none⟩) 1 1] ∧ IntsIn w (.slice (some ⟨gT, 0, none⟩) 1 1) [0] ∧ FnAt w gF 0 ⟨⟨#[109]⟩, 0, regs, [⟨⟨#[97]⟩, l⟩]⟩ ∧ w0.heap.size ≤ gT ∧ w0.heap.size ≤ gF
set_option maxRecDepth 100000 in
set_option maxHeartbeats 2000000 in
theorem prog16_any (heap regs : Int) (hr : I64 regs) (l : List Insx) (pi : Option Addr) (ci : Nat) (w : World) (hI : InsxIn w (.slice pi l.length ci) l) :
    Calls Try.prog 23 #[.int .i64 heap, .int .i64 regs, .slice pi l.length ci] w fun e w' => ∃ v, e = .returned v ∧ Made w w' v heap regs l ∧ Below w.heap.size w w' := by
  have HI := shid hI
  have HR := shid hr
  clear hI hr
  go_enter Try.func23, Try.ntmps23
  go_wp2_with fail
  have hp := (((PBox.new w heap (.slice (some ⟨w.heap.size + 1, 0, none⟩) 1 1) (.slice (some ⟨w.heap.size + 1 + 1 + 1, 0, none⟩) 1 1) 25).keep (al1 _ (.cells #[.int .i64 0] 3))).keep (al1 _ (.cells #[.string ⟨#[97]⟩, .slice pi l.length ci] 46))).keep (al1 _ (.cells #[.string ⟨#[109]⟩, .int .i64 0, .int .i64 regs, .slice (some ⟨w.heap.size + 1 + 1, 0, none⟩) 1 1] 41))
  have hb := (BBox.new ((w.alloc (.cells #[.int .i64 heap, .slice (some ⟨w.heap.size + 1, 0, none⟩) 1 1, .slice (some ⟨w.heap.size + 1 + 1 + 1, 0, none⟩) 1 1] 25)).alloc (.cells #[.int .i64 0] 3)) ⟨#[97]⟩ (.slice pi l.length ci) 46).keep (al1 _ (.cells #[.string ⟨#[109]⟩, .int .i64 0, .int .i64 regs, .slice (some ⟨w.heap.size + 1 + 1, 0, none⟩) 1 1] 41))
  have hf := FBox.new (((w.alloc (.cells #[.int .i64 heap, .slice (some ⟨w.heap.size + 1, 0, none⟩) 1 1, .slice (some ⟨w.heap.size + 1 + 1 + 1, 0, none⟩) 1 1] 25)).alloc (.cells #[.int .i64 0] 3)).alloc (.cells #[.string ⟨#[97]⟩, .slice pi l.length ci] 46)) ⟨#[109]⟩ 0 regs (.slice (some ⟨w.heap.size + 1 + 1, 0, none⟩) 1 1) 41
  have ht : ((((w.alloc (.cells #[.int .i64 heap, .slice (some ⟨w.heap.size + 1, 0, none⟩) 1 1, .slice (some ⟨w.heap.size + 1 + 1 + 1, 0, none⟩) 1 1] 25)).alloc (.cells #[.int .i64 0] 3)).alloc (.cells #[.string ⟨#[97]⟩, .slice pi l.length ci] 46)).alloc (.cells #[.string ⟨#[109]⟩, .int .i64 0, .int .i64 regs, .slice (some ⟨w.heap.size + 1 + 1, 0, none⟩) 1 1] 41)).cell? ⟨w.heap.size + 1, 0, none⟩ = some (.int .i64 0) := by
    have h1 := cell_of_obj (i := 0) (heap_alloc_new (w.alloc (.cells #[.int .i64 heap, .slice (some ⟨w.heap.size + 1, 0, none⟩) 1 1, .slice (some ⟨w.heap.size + 1 + 1 + 1, 0, none⟩) 1 1] 25)) (.cells #[.int .i64 0] 3))
    rw [World.size_alloc] at h1
    have h2 : ((w.alloc (.cells #[.int .i64 heap, .slice (some ⟨w.heap.size + 1, 0, none⟩) 1 1, .slice (some ⟨w.heap.size + 1 + 1 + 1, 0, none⟩) 1 1] 25)).alloc (.cells #[.int .i64 0] 3)).cell? ⟨w.heap.size + 1, 0, none⟩ = some (.int .i64 0) := h1
    have hl := World.block_lt_of_cell? _ _ h2
    exact ((al2 _ (.cells #[.string ⟨#[97]⟩, .slice pi l.length ci] 46) (.cells #[.string ⟨#[109]⟩, .int .i64 0, .int .i64 regs, .slice (some ⟨w.heap.size + 1 + 1, 0, none⟩) 1 1] 41)).cell (p := ⟨w.heap.size + 1, 0, none⟩) hl).trans h2
  have hw4 : Below w.heap.size w ((((w.alloc (.cells #[.int .i64 heap, .slice (some ⟨w.heap.size + 1, 0, none⟩) 1 1, .slice (some ⟨w.heap.size + 1 + 1 + 1, 0, none⟩) 1 1] 25)).alloc (.cells #[.int .i64 0] 3)).alloc (.cells #[.string ⟨#[97]⟩, .slice pi l.length ci] 46)).alloc (.cells #[.string ⟨#[109]⟩, .int .i64 0, .int .i64 regs, .slice (some ⟨w.heap.size + 1 + 1, 0, none⟩) 1 1] 41)) := sbt (al3 w _ _ _) (al1 _ _)
  simp only [World.size_alloc] at hb hf
  generalize (((w.alloc (.cells #[.int .i64 heap, .slice (some ⟨w.heap.size + 1, 0, none⟩) 1 1, .slice (some ⟨w.heap.size + 1 + 1 + 1, 0, none⟩) 1 1] 25)).alloc (.cells #[.int .i64 0] 3)).alloc (.cells #[.string ⟨#[97]⟩, .slice pi l.length ci] 46)).alloc (.cells #[.string ⟨#[109]⟩, .int .i64 0, .int .i64 regs, .slice (some ⟨w.heap.size + 1 + 1, 0, none⟩) 1 1] 41) = W9 at *
  obtain ⟨_, k0, k1, k2⟩ := hp
  obtain ⟨_, b0, b1⟩ := hb
  obtain ⟨_, f0, f1, f2, f3⟩ := hf
  have HI9 := InsxIn.keep HI.out hw4
  have HBL : BlksIn W9 (.slice (some ⟨w.heap.size + 1 + 1, 0, none⟩) 1 1) [⟨⟨#[97]⟩, l⟩] := RowIn.one (by omega) ⟨b0, ⟨_, by simpa using b1, HI9⟩, by simp [ByteArray.size]⟩
  have HFN : FnAt W9 (w.heap.size + 1 + 1 + 1) 0 ⟨⟨#[109]⟩, 0, regs, [⟨⟨#[97]⟩, l⟩]⟩ := ⟨f0, by simpa using f1, by simpa using f2, ⟨_, by simpa using f3, HBL⟩, by simp [ByteArray.size], by show I64 0; unfold I64; omega, HR.out⟩
  have HTL : IntsIn W9 (.slice (some ⟨w.heap.size + 1, 0, none⟩) 1 1) [0] := RowIn.one (by omega) ⟨ht, by unfold I64; omega⟩
  exact bodyPost_ret (v := .agg #[.int .i64 heap, .slice (some ⟨w.heap.size + 1, 0, none⟩) 1 1, .slice (some ⟨w.heap.size + 1 + 1 + 1, 0, none⟩) 1 1]) (by simp [results, Try.results23, go_sem, k0, k1, k2]; try rfl) rfl ⟨_, rfl, ⟨_, _, rfl, HTL, HFN, by omega, by omega⟩, hw4⟩
end Go.Proofs.Ytdefooailcbnlaa
/- The walk of muntinlaw16.comes. -/
namespace Go.Proofs.Ytdefooailcbnlaa
open Go.RowKit Go.Deep
set_option linter.unusedVariables false
set_option linter.unusedSimpArgs false
set_option maxRecDepth 100000 in
set_option maxHeartbeats 2000000 in
theorem comes_any (w : World) (p : Prg) (pt : Option Addr) (ct : Nat) (pf : Option Addr) (cf : Nat) (cv : Value) (ch : List Int) (hT : IntsIn w (.slice pt p.threads.length ct) p.threads) (hF : FnsIn w (.slice pf p.funcs.length cf) p.funcs) (hc : Reads32 w cv ch) (hcw : Words ch) (hcl : ch.length ≤ 1048576) (hnil : ∀ c n, cv = .slice none n c → c = 0) (want : Value) (out heap : List Int) (kind stop : Int) (hw : OutV w want out kind stop heap)
    (he : (checkS p).2.2 = 0) (h1 : (fin16 p ch 100).out = out) (h2 : (fin16 p ch 100).kind = kind) (h3 : (fin16 p ch 100).v = stop) (h4 : (fin16 p ch 100).heap = heap) :
    Calls Try.prog 24 #[.agg #[.int .i64 p.heap, .slice pt p.threads.length ct, .slice pf p.funcs.length cf], cv, want] w fun e w' => e = .returned (.bool true) ∧ Below w.heap.size w w' := by
  obtain ⟨pt', pf', ph, nh, qf, qh, rfl, ro, rh⟩ := hw
  have hb : Below w.heap.size w ((w.alloc (.cells #[.int .i64 p.heap, .slice pt p.threads.length ct, .slice pf p.funcs.length cf] 25)).alloc (.cells #[.slice pt' pf' ph, .int .u8 kind, .int .u32 stop, .slice nh qf qh] 35)) := ((Below.refl _ _).alloc (Nat.le_refl _) _).alloc (by simp) _
  have hP := (vrow_new w #[.int .i64 p.heap, .slice pt p.threads.length ct, .slice pf p.funcs.length cf] 25).alloc (.cells #[.slice pt' pf' ph, .int .u8 kind, .int .u32 stop, .slice nh qf qh] 35)
  have hO := vrow_new (w.alloc (.cells #[.int .i64 p.heap, .slice pt p.threads.length ct, .slice pf p.funcs.length cf] 25)) #[.slice pt' pf' ph, .int .u8 kind, .int .u32 stop, .slice nh qf qh] 35
  rw [World.size_alloc] at hO
  have hR := frun_any _ p pt ct pf cf cv ch (IntsIn.keep hT hb) (FnsIn.keep hF hb) (hc.keepb hb) hcw hcl hnil 100 (by omega)
  rw [he, h1, h2, h3, h4] at hR
  have HR := fhid hR
  have HB := fhid hb
  have HP := fhid hP
  have HO := fhid hO
  have HW := fhid (And.intro ro rh)
  clear hb hP hO hR ro rh h1 h2 h3 h4 he hT hF hc hcw hcl hnil
  go_enter Try.func24, Try.ntmps24
  go_wp2_with fail
  generalize ((w.alloc (.cells #[.int .i64 p.heap, .slice pt p.threads.length ct, .slice pf p.funcs.length cf] 25)).alloc (.cells #[.slice pt' pf' ph, .int .u8 kind, .int .u32 stop, .slice nh qf qh] 35)) = W0 at *
  have c0 := HP.out.cell (k := 0) rfl
  have c1 := HP.out.cell (k := 1) rfl
  have c2 := HP.out.cell (k := 2) rfl
  go_wp2_with fail
  refine HR.out.mono ?_
  rintro e w1 ⟨v, rfl, hov, hb1⟩
  have HOV := fhid hov
  obtain ⟨p1, n1, q1, p2, n2, q2, rfl, _, _⟩ := hov.here
  have HB1 := fhid hb1
  have d0 := (HO.out.below hb1).cell (k := 0) rfl
  have d1 := (HO.out.below hb1).cell (k := 1) rfl
  have d2 := (HO.out.below hb1).cell (k := 2) rfl
  have d3 := (HO.out.below hb1).cell (k := 3) rfl
  clear hb1 c0 c1 c2 hov HR
  have hb2 : Below w1.heap.size w1 (w1.alloc (.cells #[.slice p1 n1 q1, .int .u8 kind, .int .u32 stop, .slice p2 n2 q2] 35)) := (Below.refl _ _).alloc (Nat.le_refl _) _
  have hb02 := HB.out.trans (HB1.out.mono HB.out.size)
  have HS := fhid (osame_any (w1.alloc (.cells #[.slice p1 n1 q1, .int .u8 kind, .int .u32 stop, .slice p2 n2 q2] 35)) (.agg #[.slice p1 n1 q1, .int .u8 kind, .int .u32 stop, .slice p2 n2 q2]) (.agg #[.slice pt' pf' ph, .int .u8 kind, .int .u32 stop, .slice nh qf qh]) out out heap heap kind stop kind stop (OutV.keep HOV.out.here hb2) (OutV.keep (OutV.keep ⟨_, _, _, _, _, _, rfl, HW.out.1, HW.out.2⟩ hb02) hb2))
  have HBB := fhid (hb02.trans (hb2.mono hb02.size))
  have hw1 := World.block_lt_of_cell? _ _ d0
  clear hb2 hb02
  go_wp2_with fail
  refine HS.out.mono ?_
  rintro e w3 ⟨rfl, hb3⟩
  have HB3 := fhid (HBB.out.trans (hb3.mono HBB.out.size))
  clear hb3
  go_wp2_with fail
  go_ret
  exact ⟨by simp, HB3.out⟩
end Go.Proofs.Ytdefooailcbnlaa
/- The known programs of layer 16. Plain; no function of the program is walked here. -/
namespace Go.Proofs.Ytdefooailcbnlaa
open Go.RowKit
set_option linter.unusedVariables false
def iX (op d a b n f : Int) (args : List Int) : Insx := ⟨op, d, a, b, n, f, args, 0, 0⟩
def fiveL : List Insx := [iX 0 0 0 0 5 0 [], iX 5 1 0 0 0 1 [0], iX 6 0 1 0 0 0 [], iX 10 0 1 0 0 0 []]
def twiceL : List Insx := [iX 1 1 0 0 0 0 [], iX 10 0 1 0 0 0 []]
def fnM (regs : Int) (l : List Insx) : Fnx := ⟨⟨#[109]⟩, 0, regs, [⟨⟨#[97]⟩, l⟩]⟩
def fiveP : Prg := ⟨16, [0], [fnM 2 fiveL, ⟨⟨#[116, 119, 105, 99, 101]⟩, 1, 2, [⟨⟨#[111, 110, 108, 121]⟩, twiceL⟩]⟩]⟩
def divL : List Insx := [iX 0 0 0 0 1 0 [], iX 0 1 0 0 0 0 [], iX 1 0 0 1 3 0 [], iX 10 0 0 0 0 0 []]
def divP : Prg := ⟨0, [0], [fnM 2 divL]⟩
def heapL : List Insx := [iX 0 0 0 0 1 0 [], iX 4 0 0 0 0 0 [], iX 10 0 0 0 0 0 []]
def heapP : Prg := ⟨1, [0], [fnM 1 heapL]⟩
def twoL : List Insx := [iX 7 0 0 0 0 0 [], iX 0 0 0 0 1 0 [], iX 6 0 0 0 0 0 [], iX 10 0 0 0 0 0 []]
def gL : List Insx := [iX 0 0 0 0 2 0 [], iX 6 0 0 0 0 0 [], iX 10 0 0 0 0 0 []]
def twoP : Prg := ⟨0, [0, 1], [fnM 1 twoL, ⟨⟨#[103]⟩, 0, 1, [⟨⟨#[97]⟩, gL⟩]⟩]⟩
def noneP : Prg := ⟨0, [0], [fnM 1 []]⟩
theorem five_ok : (checkS fiveP).2.2 = 0 := by decide
theorem div_ok : (checkS divP).2.2 = 0 := by decide
theorem heap_ok : (checkS heapP).2.2 = 0 := by decide
theorem two_ok : (checkS twoP).2.2 = 0 := by decide
theorem none_ok : (checkS noneP).2.2 = 140 := by decide
theorem five_runs : ((fin16 fiveP [] 100).out, (fin16 fiveP [] 100).kind, (fin16 fiveP [] 100).v, (fin16 fiveP [] 100).heap) = ([10], 1, 10, List.replicate 16 0) := by rw [fin_yes five_ok]; decide
theorem div_runs : ((fin16 divP [] 100).out, (fin16 divP [] 100).kind, (fin16 divP [] 100).v, (fin16 divP [] 100).heap) = ([], 2, 1, []) := by rw [fin_yes div_ok]; decide
theorem heap_runs : ((fin16 heapP [] 100).out, (fin16 heapP [] 100).kind, (fin16 heapP [] 100).v, (fin16 heapP [] 100).heap) = ([], 2, 2, [0]) := by rw [fin_yes heap_ok]; decide
theorem two_runs : ((fin16 twoP [1, 0] 100).out, (fin16 twoP [1, 0] 100).kind, (fin16 twoP [1, 0] 100).v, (fin16 twoP [1, 0] 100).heap) = ([2, 1], 1, 1, []) := by rw [fin_yes two_ok]; decide
end Go.Proofs.Ytdefooailcbnlaa
