/- The walk of flat.New, of a program that may be. -/
import Derived.Test.YtdefooailcbnlaaG44
namespace Go.Proofs.Ytdefooailcbnlaa
open Go.RowKit Go.Deep
set_option linter.unusedVariables false
set_option linter.unusedSimpArgs false
/-- A row of one's own is read in each world that has its block. -/
theorem ch_of_own {w : World} {base : Nat} {v : Value} {l : List Int} (h : w.ownsRow base 31 1 v l.length (u32s l)) : ∀ W : World, (∀ k, v.ownBlock = some k → W.heap[k]? = w.heap[k]?) → ChAt W v l := by
  intro W hW
  have h' : W.ownsRow base 31 1 v l.length (u32s l) := by
    refine ⟨h.1, ?_⟩
    rcases h.2 with h1 | ⟨g, cap, cur, h1, h2, h3, h4⟩
    · exact .inl h1
    · exact .inr ⟨g, cap, cur, h1, h2, (hW g (by rw [h1]; rfl)).trans h3, h4⟩
  refine ⟨Reads32.of_own h', fun p n c e => ?_⟩
  rcases h.2 with ⟨h1, h2⟩ | ⟨g, cap, cur, h1, h2, h3, h4, _⟩
  · rw [h1] at e; cases e; exact Nat.le_refl _
  · rw [h1] at e; cases e; exact h4
/-- No thread was begun. -/
theorem NewAt.start {w0 w3 w4 w9 : World} {p : Prg} {m hb lo b4 : Nat} {pv fv chv : Value} {ch : List Int} (hbl : Below w0.heap.size w0 w9) (ptr : w9.heap[m]? = some (.cells #[.int .i64 p.heap, pv, fv, .slice (some ⟨hb, 0, none⟩) p.heap.toNat p.heap.toNat, .slice none 0 0, .slice none 0 0, .int .i64 0, chv, .int .u8 0, .int .u32 0] 62 (0, 0)))
    (heap : RegsAt w9 hb (List.replicate p.heap.toNat 0)) (hm : w0.heap.size ≤ m) (hhb : w0.heap.size ≤ hb) (hlo : w0.heap.size ≤ lo) (hb4 : w0.heap.size ≤ b4) (hst : Stab lo w3 (fun W => IntsIn W pv p.threads ∧ FnsIn W fv p.funcs)) (h34 : w3.heap.size ≤ w4.heap.size) (h49 : w4.heap.size ≤ w9.heap.size)
    (hk3 : ∀ k, lo ≤ k → k < w3.heap.size → w9.heap[k]? = w3.heap[k]?) (ho : w4.ownsRow b4 31 1 chv ch.length (u32s ch)) (hk4 : ∀ k, chv.ownBlock = some k → w9.heap[k]? = w4.heap[k]?) (hne : m ≠ hb) (hm3 : w3.heap.size ≤ m) (hhb3 : hb < lo ∨ w3.heap.size ≤ hb) (hm4 : w4.heap.size ≤ m) (hhb4 : hb < b4 ∨ w4.heap.size ≤ hb) :
    ∃ R, NewAt w0 w9 p R m hb pv fv chv (.slice none 0 0) ch 0 [] := by
  have hml : m < w9.heap.size := lt_of_block ptr
  have hhl := heap.lt
  have hcl : ∀ k, chv.ownBlock = some k → b4 ≤ k ∧ k < w4.heap.size := fun k hk => ho.lt k hk
  have hRm : ∀ k, (if k = m then Role.model else if k = hb then Role.heap else if (lo ≤ k ∧ k < w3.heap.size) ∨ chv.ownBlock = some k then Role.fixed else Role.none) = .fixed → True := fun _ _ => trivial
  refine ⟨fun k => if k = m then Role.model else if k = hb then Role.heap else if (lo ≤ k ∧ k < w3.heap.size) ∨ chv.ownBlock = some k then Role.fixed else Role.none, ptr, if_pos rfl, by show (if hb = m then _ else _) = _; rw [if_neg hne.symm, if_pos rfl], fun k hk => by simp [Value.ownBlock] at hk, fun k hk => ?_, fun k hk => ?_, heap, World.ownsRow_nil _ _ _ _, fun t v x hv => by simp at hv, fun W hW => ?_, hbl⟩
  · by_cases e1 : k = m
    · omega
    · rw [if_neg e1] at hk
      by_cases e2 : k = hb
      · omega
      · rw [if_neg e2] at hk
        by_cases e3 : (lo ≤ k ∧ k < w3.heap.size) ∨ chv.ownBlock = some k
        · rcases e3 with e3 | e3
          · omega
          · have := hcl k e3; omega
        · rw [if_neg e3] at hk; exact absurd rfl hk
  · by_cases e1 : k = m
    · omega
    · rw [if_neg e1] at hk
      by_cases e2 : k = hb
      · omega
      · rw [if_neg e2] at hk
        by_cases e3 : (lo ≤ k ∧ k < w3.heap.size) ∨ chv.ownBlock = some k
        · rcases e3 with e3 | e3
          · omega
          · have := hcl k e3; omega
        · rw [if_neg e3] at hk; exact absurd rfl hk
  · have hfx : ∀ k, (lo ≤ k ∧ k < w3.heap.size) ∨ chv.ownBlock = some k → W.heap[k]? = w9.heap[k]? := fun k hk => hW k (by
      have n1 : k ≠ m := by
        rcases hk with h | h
        · omega
        · have := hcl k h; omega
      have n2 : k ≠ hb := by
        rcases hk with h | h
        · omega
        · have := hcl k h; omega
      rw [if_neg n1, if_neg n2, if_pos hk])
    obtain ⟨a, b⟩ := hst W (fun k hk hk2 => (hfx k (.inl ⟨hk, hk2⟩)).trans (hk3 k hk hk2))
    exact ⟨a, b, ch_of_own ho W (fun k hk => (hfx k (.inr hk)).trans (hk4 k hk))⟩
theorem cells1_new (w : World) (o : Obj) (v : Value) (T : TypeId) : ∀ (j : Nat) u, [v][j]? = some u → ((w.alloc o).alloc (.cells #[v] T)).cell? ((⟨w.heap.size + 1, 0, none⟩ : Addr).add j) = some u := fun j u hj => by
  have := cells_new (w.alloc o) #[v] T j u (by simpa using hj)
  rw [World.size_alloc] at this
  exact this
theorem frame_row (w : World) (o : Obj) (a b c d : Value) : ((w.alloc (.cells #[a, b, c, d] 78)).alloc o).ownsRow 0 78 4 (.slice (some ⟨w.heap.size, 0, none⟩) 1 1) 1 [a, b, c, d] := by
  refine ⟨rfl, .inr ⟨w.heap.size, 1, #[a, b, c, d], rfl, Nat.zero_le _, (Below.heap_alloc _ _ _ (by simp)).trans (heap_alloc_new w _), Nat.le_refl _, ?_, rfl, rfl⟩⟩
  first | decide | (unfold maxLen; omega) | skip
set_option maxRecDepth 100000 in
set_option maxHeartbeats 400000 in
theorem new_any (w : World) (p : Prg) (pt : Option Addr) (ct : Nat) (pf : Option Addr) (cf : Nat) (cv : Value) (ch : List Int) (hT : IntsIn w (.slice pt p.threads.length ct) p.threads) (hF : FnsIn w (.slice pf p.funcs.length cf) p.funcs) (hc : Reads32 w cv ch) (hcl : ch.length ≤ 1048576) (hnil : ∀ c n, cv = .slice none n c → c = 0) (he : (checkS p).2.2 = 0) :
    Calls Try.prog 12 #[.agg #[.int .i64 p.heap, .slice pt p.threads.length ct, .slice pf p.funcs.length cf], cv] w fun e w' => ∃ m G, e = .returned (.tuple #[.pointer (some ⟨m, 0, none⟩), .int .i64 0]) ∧ MdlAt w' p G m (newS p ch) ∧ (∀ k, G.R k ≠ .none → w.heap.size ≤ k) ∧ Below w.heap.size w w' := by
  have hg := good_of he
  obtain ⟨hh0, hh1⟩ := hg.heap
  obtain ⟨H, hH⟩ := Int.eq_ofNat_of_zero_le hh0
  obtain ⟨pc, nc, cc, rfl⟩ := hc.shape'
  have hb : Below w.heap.size w (w.alloc (.cells #[.int .i64 p.heap, .slice pt p.threads.length ct, .slice pf p.funcs.length cf] 25)) := (Below.refl _ _).alloc (Nat.le_refl _) _
  have hP := vrow_new w #[.int .i64 p.heap, .slice pt p.threads.length ct, .slice pf p.funcs.length cf] 25
  have hT1 := IntsIn.keep hT hb
  have hF1 := FnsIn.keep hF hb
  have hc1 := hc.keepb hb
  have HC := fhid (check_any p pt ct pf cf _ hT1 hF1)
  have hcv : checkV p = .tuple #[.agg #[.int .i64 (checkS p).1, .int .i64 (checkS p).2.1], .int .i64 0] := by unfold checkV; rw [he]
  rw [hcv] at HC
  have HB := fhid hb
  have HA := fhid (And.intro hT1 (And.intro hF1 hc1))
  have HP := fhid hP
  have HH := fhid (And.intro hH (And.intro hh0 hh1))
  have HCL := fhid (And.intro hcl (And.intro hnil he))
  clear hH hh0 hh1 hcl hnil he
  have hw0 : w.heap.size < (w.alloc (.cells #[.int .i64 p.heap, .slice pt p.threads.length ct, .slice pf p.funcs.length cf] 25)).heap.size := by simp
  clear hb hcv hT hF hc hT1 hF1 hc1 hP
  go_enter Try.func12, Try.ntmps12
  go_wp2_with fail
  generalize (w.alloc (.cells #[.int .i64 p.heap, .slice pt p.threads.length ct, .slice pf p.funcs.length cf] 25)) = W0 at *
  refine HC.out.mono ?_
  rintro e w1 ⟨rfl, hb1⟩
  have HB1 := fhid hb1
  clear hb1 HC
  have hs1 := HB1.out.size
  have hd0 : Below w1.heap.size w1 w1.drew := (Below.refl _ _).drew
  have mk := fun (W : World) => run_make_row' (P := Try.prog) 26 31 (.int .u32 0) 4 Try.underlying26 infofr rfl .i64 .i64 H (by have := HH.out; omega) (by have := HH.out; omega) W
  have HC2 := fhid (fun (W : World) (hW : Below w1.heap.size w1 W) => (show Calls Try.prog 26 #[.agg #[.int .i64 H, .slice pt p.threads.length ct, .slice pf p.funcs.length cf]] W (fun e w' => CopyP W p e w' ∧ Below w1.heap.size w1 w') from by
    rw [← HH.out.1]
    refine (copied_any W p hg pt ct pf cf (IntsIn.keep (IntsIn.keep HA.out.1 HB1.out) hW) (FnsIn.keep (FnsIn.keep HA.out.2.1 HB1.out) hW)).mono ?_
    rintro e w' ⟨pt3, nt3, ct3, pf3, nf3, cf3, lo, he3, hlo, hst3, hb30⟩
    exact ⟨⟨pt3, nt3, ct3, pf3, nf3, cf3, lo, he3, hlo, hst3, hb30⟩, hW.trans (hb30.mono hW.size)⟩))
  have HC3 := fhid (fun (W : World) (hW : Below w1.heap.size w1 W) => (show Calls Try.prog 27 #[.slice pc nc cc] W (fun e w' => (∃ v', e = .returned v' ∧ w'.ownsRow W.heap.size 31 1 v' ch.length (u32s ch)) ∧ Below W.heap.size W w' ∧ Below w1.heap.size w1 w') from by
    refine (uclone_any W _ ch ((HA.out.2.2.keepb HB1.out).keepb hW) HCL.out.1 HCL.out.2.1).mono ?_
    rintro e w' ⟨v', he', ho', hb'⟩
    exact ⟨⟨v', he', ho'⟩, hb', hW.trans (hb'.mono hW.size)⟩))
  have HKS := fhid (fun (W : World) (hW : Below w1.heap.size w1 W) => (show W.cell? ⟨w.heap.size, 0, none⟩ = some (.int .i64 H) ∧ W.cell? ⟨w.heap.size, 1, none⟩ = some (.slice pt p.threads.length ct) ∧ W.cell? ⟨w.heap.size, 2, none⟩ = some (.slice pf p.funcs.length cf) from by
    have hp := (HP.out.below HB1.out).below hW
    have h0 := hp.cell (k := 0) rfl
    rw [HH.out.1] at h0
    exact ⟨h0, hp.cell (k := 1) rfl, hp.cell (k := 2) rfl⟩))
  have hle : w1.heap.size ≤ w1.heap.size := Nat.le_refl _
  go_wp2_with fail
  go_cut [8] from 9 (fun a w' => ∃ m hb pv fv chv R, a = .pointer (some ⟨m, 0, none⟩) ∧ NewAt w1 w' p R m hb pv fv chv (.slice none 0 0) ch 0 [])
  case first =>
    go_region_held3 (fun w' => w'.cell? ⟨w.heap.size, 0, none⟩ = some (.int .i64 H) ∧ w'.cell? ⟨w.heap.size, 1, none⟩ = some (.slice pt p.threads.length ct) ∧ w'.cell? ⟨w.heap.size, 2, none⟩ = some (.slice pf p.funcs.length cf)) (first | (refine HKS.out _ ?_; go_grown; done))
      (first
        | (go_at_call 26; (with_reducible refine (HC2.out _ ?hb).mono ?_); (case hb => go_grown; done); rintro e W3 ⟨⟨pt3, nt3, ct3, pf3, nf3, cf3, lo, rfl, hlo, hst3, hb30⟩, hb3⟩; have hle3 : w1.heap.size ≤ W3.heap.size := hb3.size)
        | (go_at_call 27; (with_reducible refine (HC3.out _ ?hb).mono ?_); (case hb => go_grown; done); rintro e W4 ⟨⟨v4, rfl, ho4⟩, hb40, hb4⟩; have hle4 : w1.heap.size ≤ W4.heap.size := hb4.size; obtain ⟨p4, c4, rfl, _⟩ := own_shape ho4))
    all_goals go_wp2_with fail
    all_goals go_meet
    all_goals
      have hHt : p.heap.toNat = H := by have := HH.out; omega
      have hww1 : Below w.heap.size w w1 := HB.out.trans (HB1.out.mono HB.out.size)
      have hsw := hww1.size
      have hs3 := hb3.size
      have hs40 := hb40.size
      try rw [World.size_drew] at hlo
      try rw [World.size_alloc] at hlo
      try rw [World.size_alloc] at hlo
      try rw [World.size_alloc] at hs40
    · have hB4 : Below W4.heap.size W4 (W4.alloc (.cells #[.int .i64 p.heap, .slice pt3 nt3 ct3, .slice pf3 nf3 cf3, .slice (some ⟨W3.heap.size, 0, none⟩) H H, .slice none 0 0, .slice none 0 0, .int .i64 0, .slice p4 ch.length c4, .int .u8 0, .int .u32 0] 62)) := (Below.refl _ _).alloc (Nat.le_refl _) _
      have hB3 : Below W3.heap.size W3 (W4.alloc (.cells #[.int .i64 p.heap, .slice pt3 nt3 ct3, .slice pf3 nf3 cf3, .slice (some ⟨W3.heap.size, 0, none⟩) H H, .slice none 0 0, .slice none 0 0, .int .i64 0, .slice p4 ch.length c4, .int .u8 0, .int .u32 0] 62)) := (((Below.refl _ W3).alloc (Nat.le_refl _) _).trans (hb40.mono (by simp))).trans (hB4.mono (by omega))
      have hP := heap_alloc_new W4 (.cells #[.int .i64 p.heap, .slice pt3 nt3 ct3, .slice pf3 nf3 cf3, .slice (some ⟨W3.heap.size, 0, none⟩) H H, .slice none 0 0, .slice none 0 0, .int .i64 0, .slice p4 ch.length c4, .int .u8 0, .int .u32 0] 62)
      have hG : (W4.alloc (.cells #[.int .i64 p.heap, .slice pt3 nt3 ct3, .slice pf3 nf3 cf3, .slice (some ⟨W3.heap.size, 0, none⟩) H H, .slice none 0 0, .slice none 0 0, .int .i64 0, .slice p4 ch.length c4, .int .u8 0, .int .u32 0] 62)).heap[W3.heap.size]? = some (.cells (madeCells #[.int .u32 0] H) 31) := (hB4.block _ (by omega)).trans ((hb40.block _ (by simp)).trans (heap_alloc_new W3 _))
      have hb9 : Below w1.heap.size w1 (W4.alloc (.cells #[.int .i64 p.heap, .slice pt3 nt3 ct3, .slice pf3 nf3 cf3, .slice (some ⟨W3.heap.size, 0, none⟩) H H, .slice none 0 0, .slice none 0 0, .int .i64 0, .slice p4 ch.length c4, .int .u8 0, .int .u32 0] 62)) := hb4.trans (hB4.mono hb4.size)
      generalize W4.alloc (.cells #[.int .i64 p.heap, .slice pt3 nt3 ct3, .slice pf3 nf3 cf3, .slice (some ⟨W3.heap.size, 0, none⟩) H H, .slice none 0 0, .slice none 0 0, .int .i64 0, .slice p4 ch.length c4, .int .u8 0, .int .u32 0] 62) = W9 at *
      obtain ⟨R, hR⟩ := NewAt.start (w0 := w1) (w3 := W3) (w4 := W4) (w9 := W9) (p := p) (m := W4.heap.size) (hb := W3.heap.size) (lo := lo) (b4 := (W3.alloc (.cells (madeCells #[.int .u32 0] H) 31)).heap.size) hb9 (by rw [hHt]; exact hP) ⟨_, hG, fun k x hx => by rw [hHt] at hx; rw [← Array.getElem?_toList, made_u32]; simpa using hx⟩ (by omega) (by omega) (by omega) (by simp; omega) hst3 (by omega) hB4.size (fun k _ hk => hB3.block k hk) ho4 (fun k hk => hB4.block k (ho4.lt k hk).2) (by omega) (by omega) (.inr (Nat.le_refl _)) (Nat.le_refl _) (.inl (by simp))
      exact ⟨_, _, _, _, _, R, rfl, hR⟩
    · have hB4 : Below W4.heap.size W4 ((W4.alloc (.cells (madeCells #[.int .u32 0] H) 31)).alloc (.cells #[.int .i64 p.heap, .slice pt3 nt3 ct3, .slice pf3 nf3 cf3, .slice (some ⟨W4.heap.size, 0, none⟩) H H, .slice none 0 0, .slice none 0 0, .int .i64 0, .slice p4 ch.length c4, .int .u8 0, .int .u32 0] 62)) := ((Below.refl _ _).alloc (Nat.le_refl _) _).alloc (by simp) _
      have hB3 : Below W3.heap.size W3 ((W4.alloc (.cells (madeCells #[.int .u32 0] H) 31)).alloc (.cells #[.int .i64 p.heap, .slice pt3 nt3 ct3, .slice pf3 nf3 cf3, .slice (some ⟨W4.heap.size, 0, none⟩) H H, .slice none 0 0, .slice none 0 0, .int .i64 0, .slice p4 ch.length c4, .int .u8 0, .int .u32 0] 62)) := hb40.trans (hB4.mono (by omega))
      have hP := heap_alloc_new (W4.alloc (.cells (madeCells #[.int .u32 0] H) 31)) (.cells #[.int .i64 p.heap, .slice pt3 nt3 ct3, .slice pf3 nf3 cf3, .slice (some ⟨W4.heap.size, 0, none⟩) H H, .slice none 0 0, .slice none 0 0, .int .i64 0, .slice p4 ch.length c4, .int .u8 0, .int .u32 0] 62)
      have hG : ((W4.alloc (.cells (madeCells #[.int .u32 0] H) 31)).alloc (.cells #[.int .i64 p.heap, .slice pt3 nt3 ct3, .slice pf3 nf3 cf3, .slice (some ⟨W4.heap.size, 0, none⟩) H H, .slice none 0 0, .slice none 0 0, .int .i64 0, .slice p4 ch.length c4, .int .u8 0, .int .u32 0] 62)).heap[W4.heap.size]? = some (.cells (madeCells #[.int .u32 0] H) 31) := (Below.heap_alloc _ _ _ (by simp)).trans (heap_alloc_new W4 _)
      have hb9 : Below w1.heap.size w1 ((W4.alloc (.cells (madeCells #[.int .u32 0] H) 31)).alloc (.cells #[.int .i64 p.heap, .slice pt3 nt3 ct3, .slice pf3 nf3 cf3, .slice (some ⟨W4.heap.size, 0, none⟩) H H, .slice none 0 0, .slice none 0 0, .int .i64 0, .slice p4 ch.length c4, .int .u8 0, .int .u32 0] 62)) := hb4.trans (hB4.mono hb4.size)
      rw [World.size_alloc] at hP
      generalize (W4.alloc (.cells (madeCells #[.int .u32 0] H) 31)).alloc (.cells #[.int .i64 p.heap, .slice pt3 nt3 ct3, .slice pf3 nf3 cf3, .slice (some ⟨W4.heap.size, 0, none⟩) H H, .slice none 0 0, .slice none 0 0, .int .i64 0, .slice p4 ch.length c4, .int .u8 0, .int .u32 0] 62) = W9 at *
      obtain ⟨R, hR⟩ := NewAt.start (w0 := w1) (w3 := W3) (w4 := W4) (w9 := W9) (p := p) (m := W4.heap.size + 1) (hb := W4.heap.size) (lo := lo) (b4 := W3.heap.size) hb9 (by rw [hHt]; exact hP) ⟨_, hG, fun k x hx => by rw [hHt] at hx; rw [← Array.getElem?_toList, made_u32]; simpa using hx⟩ (by omega) (by omega) (by omega) (by omega) hst3 (by omega) hB4.size (fun k _ hk => hB3.block k hk) ho4 (fun k hk => hB4.block k (ho4.lt k hk).2) (by omega) (by omega) (.inr (by omega)) (by omega) (.inr (Nat.le_refl _))
      exact ⟨_, _, _, _, _, R, rfl, hR⟩
    · have hB4 : Below W4.heap.size W4 (W4.alloc (.cells #[.int .i64 p.heap, .slice pt3 nt3 ct3, .slice pf3 nf3 cf3, .slice (some ⟨w1.heap.size + 1, 0, none⟩) H H, .slice none 0 0, .slice none 0 0, .int .i64 0, .slice p4 ch.length c4, .int .u8 0, .int .u32 0] 62)) := (Below.refl _ _).alloc (Nat.le_refl _) _
      have hB3 : Below W3.heap.size W3 (W4.alloc (.cells #[.int .i64 p.heap, .slice pt3 nt3 ct3, .slice pf3 nf3 cf3, .slice (some ⟨w1.heap.size + 1, 0, none⟩) H H, .slice none 0 0, .slice none 0 0, .int .i64 0, .slice p4 ch.length c4, .int .u8 0, .int .u32 0] 62)) := hb40.trans (hB4.mono (by omega))
      have hP := heap_alloc_new W4 (.cells #[.int .i64 p.heap, .slice pt3 nt3 ct3, .slice pf3 nf3 cf3, .slice (some ⟨w1.heap.size + 1, 0, none⟩) H H, .slice none 0 0, .slice none 0 0, .int .i64 0, .slice p4 ch.length c4, .int .u8 0, .int .u32 0] 62)
      have hG : (W4.alloc (.cells #[.int .i64 p.heap, .slice pt3 nt3 ct3, .slice pf3 nf3 cf3, .slice (some ⟨w1.heap.size + 1, 0, none⟩) H H, .slice none 0 0, .slice none 0 0, .int .i64 0, .slice p4 ch.length c4, .int .u8 0, .int .u32 0] 62)).heap[w1.heap.size + 1]? = some (.cells (madeCells #[.int .u32 0] H) 31) := by
        have h0 := heap_alloc_new (w1.alloc (.cells #[.int .i64 (checkS p).1, .int .i64 (checkS p).2.1] 72)) (.cells (madeCells #[.int .u32 0] H) 31)
        rw [World.size_alloc] at h0
        exact (hB3.block _ (by have := hb30.size; simp at this; omega)).trans ((hb30.block _ (by simp)).trans h0)
      have hb9 : Below w1.heap.size w1 (W4.alloc (.cells #[.int .i64 p.heap, .slice pt3 nt3 ct3, .slice pf3 nf3 cf3, .slice (some ⟨w1.heap.size + 1, 0, none⟩) H H, .slice none 0 0, .slice none 0 0, .int .i64 0, .slice p4 ch.length c4, .int .u8 0, .int .u32 0] 62)) := hb4.trans (hB4.mono hb4.size)
      have hs30 := hb30.size
      rw [World.size_drew, World.size_alloc, World.size_alloc] at hs30
      generalize W4.alloc (.cells #[.int .i64 p.heap, .slice pt3 nt3 ct3, .slice pf3 nf3 cf3, .slice (some ⟨w1.heap.size + 1, 0, none⟩) H H, .slice none 0 0, .slice none 0 0, .int .i64 0, .slice p4 ch.length c4, .int .u8 0, .int .u32 0] 62) = W9 at *
      obtain ⟨R, hR⟩ := NewAt.start (w0 := w1) (w3 := W3) (w4 := W4) (w9 := W9) (p := p) (m := W4.heap.size) (hb := w1.heap.size + 1) (lo := lo) (b4 := W3.heap.size) hb9 (by rw [hHt]; exact hP) ⟨_, hG, fun k x hx => by rw [hHt] at hx; rw [← Array.getElem?_toList, made_u32]; simpa using hx⟩ (by omega) (by omega) (by omega) (by omega) hst3 (by omega) hB4.size (fun k _ hk => hB3.block k hk) ho4 (fun k hk => hB4.block k (ho4.lt k hk).2) (by omega) (by omega) (.inl (by omega)) (Nat.le_refl _) (.inl (by omega))
      exact ⟨_, _, _, _, _, R, rfl, hR⟩
  case rest =>
    obtain ⟨m, hb, pv, fv, chv, R0, rfl, hN⟩ := hcut
    have c1 := (HKS.out wc hN.below).2.1
    have HIT := fhid (IntsIn.keep HA.out.1 HB1.out)
    have HWW := fhid (show Below w.heap.size w w1 from HB.out.trans (HB1.out.mono HB.out.size))
    have HN := fhid hN
    have hnt := hg.nt
    obtain ⟨ithr, zthr, hit, hzt, hst, hbt, hct⟩ := info4_parts infothr
    clear hN HC2 HC3 HKS mk HA HB HP HB1 hd0 hle
    go_wp2_with fail
    go_loopw [31] (fun i wr => ∃ n R tv vs, n ≤ p.threads.length ∧ i = .int .i64 ((n : Nat) : Int) ∧ NewAt w1 wr p R m hb pv fv chv tv ch n vs) (fun i _ => p.threads.length - (intOf i).toNat)
    case atStart => exact ⟨0, _, _, _, Nat.zero_le _, rfl, HN.out⟩
    case round =>
      obtain ⟨n, R, tv, vs, hn, rfl, hN⟩ := hrel
      obtain ⟨wA, hwA⟩ : ∃ wA, wA = wr := ⟨wr, rfl⟩
      subst hwA
      have HNA := fhid hN
      by_cases hlt : n < p.threads.length
      · obtain ⟨hb5, _, pI, cI, bI, oI, hIe, ⟨hIp, _⟩, hIc⟩ := (⟨trivial, IntsIn.keep HIT.out hN.below⟩ : True ∧ IntsIn wA (.slice pt p.threads.length ct) p.threads)
        cases hIe
        obtain rfl := hIp (by omega)
        have hx := List.getElem?_eq_getElem hlt
        have ci := (hIc n _ hx).1
        rw [Nat.mul_one] at ci
        obtain ⟨ht0, ht1, ht2⟩ := hg.thr _ (List.getElem_mem hlt)
        have HX := fhid hx
        generalize p.threads[n] = x at *
        obtain ⟨f, rfl⟩ := Int.eq_ofNat_of_zero_le ht0
        have hff : f < p.funcs.length := by omega
        have hfn := List.getElem?_eq_getElem hff
        have hgf := (hg.fn _ (List.getElem_mem hff)).args
        have HFN := fhid hfn
        generalize p.funcs[f] = fn at *
        obtain ⟨RR, hRR⟩ := Int.eq_ofNat_of_zero_le (show 0 ≤ fn.regs by omega)
        have hRR2 : RR ≤ 4096 := by omega
        have hnl : (n : Int) < p.threads.length := by omega
        have e1 : IntKind.i64.wrap ((n : Int) + 1) = ((n + 1 : Nat) : Int) := by rw [IntWalk.i64_in _ (by omega)]; omega
        obtain ⟨k5, k2, kf⟩ := hN.cell5
        obtain ⟨ptv, ctv, rfl, hbv⟩ := own_shape hN.thr
        have hml := World.block_lt_of_cell? _ _ k5
        have hdr : Below wA.heap.size wA wA.drew := (Below.refl _ _).drew
        have HFR := fhid (frameOf_any wA.drew m fv p.funcs k2 (FnsIn.keep (hN.fix wA (fun _ _ => rfl)).2.1 hdr) f fn hfn RR hRR hRR2 (.slice none 0 0) [] ⟨by simp [maxLen], _, _, rfl, fun h => by simp at h⟩ (Nat.zero_le _))
        have HOW := fhid (fun (w' : World) (hb : Below wA.heap.size wA w') => hN.thr.keepw (Only.of_below (S := fun _ => False) hb) (fun _ _ h => h))
        have HTC := fhid (fun (w' : World) (hb : Below wA.heap.size wA w') => And.intro ((hb.cell (p := ⟨m, 5, none⟩) hml).trans k5) ((hb.frozen (p := ⟨m, 5, none⟩) hml).trans kf))
        have hmt : some m ≠ (Value.slice ptv n ctv).ownBlock := fun e => by have := hN.rt m e.symm; rw [hN.rm] at this; cases this
        have HTG := fhid (fun (w' w2 : World) (hb : Below wA.heap.size wA w') (hgr : w'.grownBy w2 (Value.slice ptv n ctv).ownBlock) => (show w2.cell? ⟨m, 5, none⟩ = some (.slice ptv n ctv) ∧ w2.frozen? ⟨m, 5, none⟩ = false from by
          have e := hgr.block m (Nat.lt_of_lt_of_le hml hb.size) hmt
          exact ⟨(World.cell?_of_block (a := ⟨m, 5, none⟩) e).trans (HTC.out w' hb).1, (World.frozen?_of_block (a := ⟨m, 5, none⟩) e).trans (HTC.out w' hb).2⟩))
        have HR := fhid hRR
        clear hN hIc hIp hx hfn hgf ht0 ht1 ht2 hbv hmt k2 hRR
        go_wp2_with fail
        go_region_law (first
          | (go_simp; go_at_call 28; refine HFR.out.mono ?_; rintro e W7 ⟨kn, rfl, hkn, hkr, hb70⟩; have hb7 : Below wA.heap.size wA W7 := hdr.trans hb70; have hle7 : wA.heap.size ≤ W7.heap.size := hb7.size; obtain ⟨q5, qf5⟩ := HTC.out W7 hb7; have hq7 := World.block_lt_of_cell? _ _ q5)
          | (refine step_append_placeN _ rfl _ _ 60 rfl 84 ithr zthr 1 24 Try.underlying60 hit hzt hst hbt hct (by decide) (.slice ptv n ctv) n vs (by first | rfl | (go_simp; done) | (simp [Act.eval]; done)) (HOW.out _ (by go_grown)) ⟨W7.heap.size + 1, 0, none⟩ 1 1 [.slice (some ⟨W7.heap.size, 0, none⟩) 1 1] (by first | rfl | (go_simp; done) | (simp [Act.eval]; done)) rfl (cells1_new _ _ _ _) (by simp [Value.oneCell']) (by unfold maxLen; omega) (by omega) ?_; intro v' w9 hown9 hgrow9 hpl9; obtain ⟨q9, qf9⟩ := HTG.out _ w9 (by go_grown) hgrow9; obtain ⟨pv9, nv9, cv9, rfl⟩ := ownsRow_shape hown9))
        all_goals
          have hrn : regsN p f = RR := by unfold regsN; rw [HFN.out]; simp [HR.out]
          have hfr : frameOf p (f : Int).toNat [] = ⟨f, 0, 0, List.replicate RR 0⟩ := by unfold frameOf; simp [hrn]
          have hba : Below wA.heap.size wA ((W7.alloc (.cells #[.int .i64 f, .int .i64 0, .int .i64 0, .slice (some ⟨kn, 0, none⟩) RR RR] 78)).alloc (.cells #[.slice (some ⟨W7.heap.size, 0, none⟩) 1 1] 84)) := (hb7.alloc hle7 _).alloc (by simp; omega) _
          have hkl := hkr.lt
          have hkw : wA.heap.size ≤ kn := hkn
          obtain ⟨R', hR'⟩ := HNA.out.step HX.out hba (kn := kn) (gq := W7.heap.size) hkw hle7 (by omega) (by rw [hfr]; simpa using (hkr.alloc _).alloc _) (by rw [hfr]; simpa [frC] using frame_row W7 _ (.int .i64 f) (.int .i64 0) (.int .i64 0) (.slice (some ⟨kn, 0, none⟩) RR RR)) hown9 hgrow9 hpl9
          have HF := fhid hR'
          clear hR' hba hown9 hgrow9 hpl9 hkr hb7 hb70 q5 qf5 q9 qf9 HFR HOW HTC HTG
          go_wp2_with fail
          exact ⟨⟨n + 1, R', _, _, by omega, by go_num, HF.out⟩, by simp [intOf]; omega⟩
      · obtain rfl : n = p.threads.length := by omega
        clear hN
        go_wp2_with fail
        obtain ⟨G, h1, h2⟩ := HNA.out.fin hg
        go_ret2
        exact ⟨m, G, rfl, h1, fun k hk => Nat.le_trans HWW.out.size (h2 k hk), HWW.out.trans (HNA.out.below.mono HWW.out.size)⟩
end Go.Proofs.Ytdefooailcbnlaa
