/- Several texts in one: SwapC. -/
import Derived.Test.YtajholbcpmjhiaaGreatDoorH33
set_option linter.unusedVariables false
set_option linter.unusedSimpArgs false
/- Walks of the package swap: the maker's other methods. (Printed by genswap2.py.) -/
namespace Go.Proofs.YtajholbcpmjhiaaGreatDoor
open Go.RowKit
structure SwBox (w : World) (b mb : Nat) (S : Nat → Prop) : Prop where
  c : w.cell? ⟨b, 0, none⟩ = some (.pointer (some ⟨mb, 0, none⟩))
  n : ¬ S b
  ne : b ≠ mb
theorem SwBox.to {w w' : World} {b mb : Nat} {S S' : Nat → Prop} (h : SwBox w b mb S) (o : Only (fun k => S k ∨ k = mb) w w') (r : ∀ k, S' k → S k ∨ w.heap.size ≤ k) : SwBox w' b mb S' := by
  have hl := World.block_lt_of_cell? _ _ h.c
  refine ⟨(o.cell (p := ⟨b, 0, none⟩) hl (fun hk => hk.elim h.n h.ne)).trans h.c, fun hs => ?_, h.ne⟩
  rcases r b hs with h1 | h1
  · exact h.n h1
  · have hl2 : b < w.heap.size := hl
    omega
theorem SwBox.goc {W w w' : World} {pa b mb nw : Nat} {S : Nat → Prop} {s : Bs} (h : SwBox w b mb S) (hg : SwGo W w pa mb nw S s w') : w'.cell? ⟨b, 0, none⟩ = some (.pointer (some ⟨mb, 0, none⟩)) := by
  obtain ⟨S', h', o', r'⟩ := hg
  exact (h.to o' r').c
theorem SwGo.nwc {W w w' : World} {pa mb nw : Nat} {S : Nat → Prop} {s : Bs} (hg : SwGo W w pa mb nw S s w') : w'.cell? ⟨mb, 1, none⟩ = some (.int .i64 (nw : Int)) := by
  obtain ⟨S', h', o', r'⟩ := hg
  exact row_cell h'.row (j := 1) rfl
theorem sput_lit {W w : World} {pa mb nw : Nat} {S : Nat → Prop} {s : Bs} (h : SwAt W w pa mb nw S s) {l : List Ix} (hm : allI l) (hl : l.length ≤ 100) (hL : s.L.length + l.length < 4294967296) {w1 : World} (hb : Below w.heap.size w w1) :
    Calls Tryz.prog 84 #[.pointer (some ⟨mb, 0, none⟩), .slice (some ⟨w1.heap.size, 0, none⟩) l.length l.length] (w1.alloc (.cells (l.flatMap Ix.cells).toArray 41)) fun e w' => e = .returned (.tuple #[]) ∧ SwGo W w pa mb nw S (s.put l) w' := by
  have hb2 : Below w.heap.size w (w1.alloc (.cells (l.flatMap Ix.cells).toArray 41)) := hb.alloc hb.size _
  refine (sput_any (h.keepb hb2) (InsIn.lit hm hl w1) hm hL).mono ?_
  rintro e w' ⟨he, hg⟩
  exact ⟨he, hg.behind hb2⟩
theorem sflush1_any {W w : World} {pa mb nw : Nat} {S : Nat → Prop} {s : Bs} (h : SwAt W w pa mb nw S s) {b : Nat} (c0 : w.cell? ⟨b, 0, none⟩ = some (.pointer (some ⟨mb, 0, none⟩))) (n0 : ¬ S b) (hL : s.L.length < 4294961000) :
    Calls Tryz.prog 144 #[.pointer (some ⟨b, 0, none⟩)] w fun e w' => e = .returned (.int .i64 0) ∧ BsGo W w pa S (s.each 23 16) w' := by
  have cm := row_cell h.row (j := 0) rfl
  have HP := ahid (wstore_any h.bs (by omega))
  clear h
  go_enter Tryz.func144, Tryz.ntmps144
  go_wp2_with fail
  refine HP.out.mono ?_
  rintro e w2 ⟨rfl, hg⟩
  have HG := ahid hg
  clear hg
  go_wp2_with fail
  go_ret
  exact ⟨rfl, HG.out⟩
theorem sdo_flush {W w : World} {pa mb nw : Nat} {S : Nat → Prop} {s s' : Bs} (h : SwAt W w pa mb nw S s) {b : Nat} (hf : Calls Tryz.prog 144 #[.pointer (some ⟨b, 0, none⟩)] w fun e w' => e = .returned (.int .i64 0) ∧ BsGo W w pa S s' w') :
    Calls Tryz.prog 139 #[.pointer (some ⟨mb, 0, none⟩), .func (.func 144) #[] #[.pointer (some ⟨b, 0, none⟩)]] w fun e w' => e = .returned (.tuple #[]) ∧ SwGo W w pa mb nw S s' w' := by
  have c2 := row_cell h.row (j := 2) rfl
  have HF := ahid hf
  have H := ahid h
  clear hf h
  go_enter Tryz.func139, Tryz.ntmps139
  go_wp2_with fail
  refine HF.out.mono ?_
  rintro e w1 ⟨rfl, hg⟩
  obtain ⟨hs, d2, f2⟩ := H.out.goes hg
  have HS := ahid hs
  clear hg hs c2
  go_wp2_with fail
  go_end0
  exact ⟨rfl, HS.out⟩
theorem sresume1_any {W w : World} {pa mb nw : Nat} {S : Nat → Prop} {s : Bs} (h : SwAt W w pa mb nw S s) {b : Nat} (c0 : w.cell? ⟨b, 0, none⟩ = some (.pointer (some ⟨mb, 0, none⟩))) (n0 : ¬ S b) (hL : s.L.length < 4294961000) :
    Calls Tryz.prog 148 #[.pointer (some ⟨b, 0, none⟩)] w fun e w' => e = .returned (.int .i64 0) ∧ BsGo W w pa S (s.each 22 16) w' := by
  have cm := row_cell h.row (j := 0) rfl
  have HP := ahid (wload_any h.bs (by omega))
  clear h
  go_enter Tryz.func148, Tryz.ntmps148
  go_wp2_with fail
  refine HP.out.mono ?_
  rintro e w2 ⟨rfl, hg⟩
  have HG := ahid hg
  clear hg
  go_wp2_with fail
  go_ret
  exact ⟨rfl, HG.out⟩
theorem sdo_resume {W w : World} {pa mb nw : Nat} {S : Nat → Prop} {s s' : Bs} (h : SwAt W w pa mb nw S s) {b : Nat} (hf : Calls Tryz.prog 148 #[.pointer (some ⟨b, 0, none⟩)] w fun e w' => e = .returned (.int .i64 0) ∧ BsGo W w pa S s' w') :
    Calls Tryz.prog 139 #[.pointer (some ⟨mb, 0, none⟩), .func (.func 148) #[] #[.pointer (some ⟨b, 0, none⟩)]] w fun e w' => e = .returned (.tuple #[]) ∧ SwGo W w pa mb nw S s' w' := by
  have c2 := row_cell h.row (j := 2) rfl
  have HF := ahid hf
  have H := ahid h
  clear hf h
  go_enter Tryz.func139, Tryz.ntmps139
  go_wp2_with fail
  refine HF.out.mono ?_
  rintro e w1 ⟨rfl, hg⟩
  obtain ⟨hs, d2, f2⟩ := H.out.goes hg
  have HS := ahid hs
  clear hg hs c2
  go_wp2_with fail
  go_end0
  exact ⟨rfl, HS.out⟩
set_option maxRecDepth 100000 in
theorem swindow_any {W w : World} {pa mb nw : Nat} {S : Nat → Prop} {s : Bs} (h : SwAt W w pa mb nw S s) {r : Int} (hr : r = 4 ∨ r = 6) (hM : s.M.length < 4294961000) (hL : s.L.length < 4294961000) :
    Calls Tryz.prog 143 #[.pointer (some ⟨mb, 0, none⟩), .int .u8 r] w fun e w' => e = .returned (.tuple #[]) ∧ SwGo W w pa mb nw S (s.window r) w' := by
  have HP := ahid (fun (v : World) (hb : Below w.heap.size w v) => sput_lit h (l := [bothI 6 2 5 r, ⟨27, 0, 2, 0, false, 0⟩]) (lit_okW r hr) (by simp) (by simp; omega) hb)
  clear h hr
  go_enter Tryz.func143, Tryz.ntmps143
  go_wp2_with fail
  refine (sboth_any (op := 6) (by omega) w).mono ?_
  rintro e v0 ⟨rfl, hb0⟩
  go_wp2_with fail
  refine (HP.out v0 hb0).mono ?_
  rintro e w1 ⟨rfl, hg⟩
  have HG := ahid hg
  clear hg
  go_wp2_with fail
  go_end0
  exact ⟨rfl, HG.out⟩
set_option maxRecDepth 100000 in
set_option maxHeartbeats 4000000 in
theorem snext_any {W w : World} {pa mb nw : Nat} {S : Nat → Prop} {s : Bs} (h : SwAt W w pa mb nw S s) {nm : List UInt8} (hs : nm.length ≤ 100) (h32 : nw ≤ 32) (hn : nm ∉ names s.M) (hM : s.M.length < 4294961000) (hL : s.L.length < 4294961000) :
    Calls Tryz.prog 145 #[.pointer (some ⟨mb, 0, none⟩), .string ⟨nm.toArray⟩] w fun e w' => e = .returned (.tuple #[]) ∧ SwGo W w pa mb nw S (s.next nw nm) w' := by
  obtain ⟨s1, e1⟩ : ∃ x, x = s.put [aluI 0 4 4 1, cmpI 4 nw] := ⟨_, rfl⟩
  have L1 : s1.L.length = s.L.length + 2 := by rw [e1]; exact Bs.put_len _ _
  have N1 : names s1.M = names s.M ∧ s1.M.length = s.M.length := by rw [e1]; exact ⟨rfl, rfl⟩
  obtain ⟨s2, e2⟩ : ∃ x, x = s1.jump 2 nm := ⟨_, rfl⟩
  have L2 : s2.L.length = s1.L.length + 1 := by rw [e2]; exact len_jump _ _ _
  have N2 : names s2.M = names s1.M ∧ s2.M.length = s1.M.length := by rw [e2]; exact ⟨rfl, rfl⟩
  obtain ⟨s3, e3⟩ : ∃ x, x = s2.put [aluI 0 4 0 0] := ⟨_, rfl⟩
  have L3 : s3.L.length = s2.L.length + 1 := by rw [e3]; exact Bs.put_len _ _
  have N3 : names s3.M = names s2.M ∧ s3.M.length = s2.M.length := by rw [e3]; exact ⟨rfl, rfl⟩
  have hfin : s.next nw nm = s3.mark nm := by rw [e3, e2, e1]; rfl
  rw [hfin]
  have HF := ahid (show look s3.M nm = none from look_names (by rw [N3.1, N2.1, N1.1]; exact hn))
  have hz : s1.L.length < 4294961010 ∧ s2.L.length < 4294961010 ∧ s3.L.length < 4294961010 ∧ s3.M.length < 4294961010 := by omega
  have HE := ahid (And.intro e1 (And.intro e2 e3))
  have cn := row_cell h.row (j := 1) rfl
  have HP := ahid (fun (v : World) (hb : Below w.heap.size w v) => sput_lit h (l := [aluI 0 4 4 1, cmpI 4 nw]) (next_ok nw (by omega)) (by simp) (by simp; omega) hb)
  have HK := ahid (show ∀ w', Below w.heap.size w w' → w'.cell? ⟨mb, 1, none⟩ = some (.int .i64 (nw : Int)) from fun w' hb => (hb.cell (p := ⟨mb, 1, none⟩) (World.block_lt_of_cell? _ _ cn)).trans cn)
  have HLT := ahid h.lt
  have HN1 := ahid (fun v => salu_any (op := 0) (rd := 4) (rs := 4) (n := 1) (by omega) v)
  have HN2 := ahid (fun v => scmp_any (rs := 4) (n := (nw : Int)) v)
  have q1 : IntKind.i32.wrap (nw : Int) = (nw : Int) := IntWalk.i32_in _ (by omega)
  have q2 : wrap32 (nw : Int) = (nw : Int) := by unfold wrap32; omega
  clear h hn hfin e1 e2 e3 N1 N2 N3 L1 L2 L3
  go_enter Tryz.func145, Tryz.ntmps145
  go_wp2_with fail
  have hbW : Below w.heap.size w w.drew := (Below.refl _ _).drew
  go_region_held3 (fun w' => w'.cell? ⟨mb, 1, none⟩ = some (.int .i64 (nw : Int))) (first | (with_reducible exact cn) | (exact HK.out _ hbW) | (exact HK.out _ (hbW.alloc hbW.size _)) | (exact hg.nwc) | (refine HK.out _ ?_; go_grown; done))
    (first
      | (go_at_call 86; (with_reducible refine (HN1.out _).mono ?_); rintro e v ⟨rfl, hb0⟩; have hbW := hbW.trans (hb0.mono hbW.size); clear hb0)
      | (go_at_call 147; (with_reducible refine (HN2.out _).mono ?_); rintro e v ⟨rfl, hb0⟩; have hbW := hbW.trans (hb0.mono hbW.size); clear hb0)
      | (go_at_call 84; refine (HP.out _ hbW).mono ?_; rintro e w1 ⟨rfl, hg⟩))
  rw [← HE.out.1] at hg
  obtain ⟨S1, h1, o1, r1⟩ := hg
  have H1 := ahid h1
  clear h1 cn HP HK HN1 HN2 hbW
  go_wp2_with fail
  refine (sjump_any H1.out (cd := 2) (nm0 := nm) (by omega) (by omega) hs (by omega)).mono ?_
  rintro e w2 ⟨rfl, hg⟩
  rw [← HE.out.2.1] at hg
  obtain ⟨S2, h2, o2, r2⟩ := hg
  have H2 := ahid h2
  clear h2
  go_wp2_with fail
  refine (salu_any (op := 0) (by omega) w2).mono ?_
  rintro e v0 ⟨rfl, hb0⟩
  go_wp2_with fail
  refine (sput_lit H2.out (l := [aluI 0 4 0 0]) lit_okA (by simp) (by simp; omega) hb0).mono ?_
  rintro e w3 ⟨rfl, hg⟩
  rw [← HE.out.2.2] at hg
  obtain ⟨S3, h3, o3, r3⟩ := hg
  have H3 := ahid h3
  clear h3 hb0
  go_wp2_with fail
  refine (smark_any H3.out (nm0 := nm) hs HF.out (by omega) (by omega)).mono ?_
  rintro e w4 ⟨rfl, hg⟩
  have HG := ahid (SwGo.then HLT.out o1 r1 (SwGo.then (Nat.lt_of_lt_of_le HLT.out o1.size) o2 r2 (SwGo.then (Nat.lt_of_lt_of_le HLT.out (Nat.le_trans o1.size o2.size)) o3 r3 hg)))
  clear hg
  go_wp2_with fail
  go_end0
  exact ⟨rfl, HG.out⟩
set_option maxRecDepth 100000 in
set_option maxHeartbeats 8000000 in
theorem sflush_any {W w : World} {pa mb nw : Nat} {S : Nat → Prop} {s : Bs} (h : SwAt W w pa mb nw S s) (h32 : nw ≤ 32) (hn_nmYieldEach : nmYieldEach ∉ names s.M) (hn_nmYieldIn : nmYieldIn ∉ names s.M) (hM : s.M.length < 4294960000) (hL : s.L.length < 4294960000) :
    Calls Tryz.prog 89 #[.pointer (some ⟨mb, 0, none⟩)] w fun e w' => e = .returned (.tuple #[]) ∧ SwGo W w pa mb nw S (s.flush nw) w' := by
  have L0 : s.L.length ≤ s.L.length := Nat.le_refl _
  have K0 : s.M.length ≤ s.M.length := Nat.le_refl _
  obtain ⟨s1, e1⟩ : ∃ x, x = s.put [⟨28, 1, 0, 0, false, 0⟩, ⟨26, 3, 0, 0, false, 0⟩, aluI 5 4 3 31, aluI 0 6 4 0, aluI 5 5 3 (-32)] := ⟨_, rfl⟩
  have L1 : s1.L.length ≤ s.L.length + 5 := by rw [e1, Bs.put_len]; first | omega | (simp only [List.length_cons, List.length_nil]; omega)
  have N1 : names s1.M = names s.M := by rw [e1, names_put]
  have K1 : s1.M.length ≤ s.M.length + 0 := by have := congrArg List.length N1; simp [names] at this; omega
  obtain ⟨s2, e2⟩ : ∃ x, x = s1.mark nmYieldEach := ⟨_, rfl⟩
  have L2 : s2.L.length ≤ s.L.length + 5 := by rw [e2, len_mark]; first | omega | (simp only [List.length_cons, List.length_nil]; omega)
  have N2 : names s2.M = names s.M ++ [nmYieldEach] := by rw [e2, names_mark, N1]
  have K2 : s2.M.length ≤ s.M.length + 1 := by have := congrArg List.length N2; simp [names] at this; omega
  obtain ⟨s3, e3⟩ : ∃ x, x = s2.window 4 := ⟨_, rfl⟩
  have L3 : s3.L.length ≤ s.L.length + 7 := by rw [e3, len_window]; first | omega | (simp only [List.length_cons, List.length_nil]; omega)
  have N3 : names s3.M = names s.M ++ [nmYieldEach] := by rw [e3, names_window, N2]
  have K3 : s3.M.length ≤ s.M.length + 1 := by have := congrArg List.length N3; simp [names] at this; omega
  obtain ⟨s4, e4⟩ : ∃ x, x = s3.each 23 16 := ⟨_, rfl⟩
  have L4 : s4.L.length ≤ s.L.length + 23 := by rw [e4, Bs.each_len]; first | omega | (simp only [List.length_cons, List.length_nil]; omega)
  have N4 : names s4.M = names s.M ++ [nmYieldEach] := by rw [e4, names_each, N3]
  have K4 : s4.M.length ≤ s.M.length + 1 := by have := congrArg List.length N4; simp [names] at this; omega
  obtain ⟨s5, e5⟩ : ∃ x, x = s4.next nw nmYieldIn := ⟨_, rfl⟩
  have L5 : s5.L.length ≤ s.L.length + 27 := by rw [e5, len_next]; first | omega | (simp only [List.length_cons, List.length_nil]; omega)
  have N5 : names s5.M = names s.M ++ [nmYieldEach, nmYieldIn] := by rw [e5, names_next, N4]; simp
  have K5 : s5.M.length ≤ s.M.length + 2 := by have := congrArg List.length N5; simp [names] at this; omega
  obtain ⟨s6, e6⟩ : ∃ x, x = s5.put [bothI 9 2 1 4, aluI 5 2 2 1, cmpI 2 1] := ⟨_, rfl⟩
  have L6 : s6.L.length ≤ s.L.length + 30 := by rw [e6, Bs.put_len]; first | omega | (simp only [List.length_cons, List.length_nil]; omega)
  have N6 : names s6.M = names s.M ++ [nmYieldEach, nmYieldIn] := by rw [e6, names_put, N5]
  have K6 : s6.M.length ≤ s.M.length + 2 := by have := congrArg List.length N6; simp [names] at this; omega
  obtain ⟨s7, e7⟩ : ∃ x, x = s6.jump 2 nmYieldEach := ⟨_, rfl⟩
  have L7 : s7.L.length ≤ s.L.length + 31 := by rw [e7, len_jump]; first | omega | (simp only [List.length_cons, List.length_nil]; omega)
  have N7 : names s7.M = names s.M ++ [nmYieldEach, nmYieldIn] := by rw [e7, names_jump, N6]
  have K7 : s7.M.length ≤ s.M.length + 2 := by have := congrArg List.length N7; simp [names] at this; omega
  obtain ⟨s8, e8⟩ : ∃ x, x = s7.window 6 := ⟨_, rfl⟩
  have L8 : s8.L.length ≤ s.L.length + 33 := by rw [e8, len_window]; first | omega | (simp only [List.length_cons, List.length_nil]; omega)
  have N8 : names s8.M = names s.M ++ [nmYieldEach, nmYieldIn] := by rw [e8, names_window, N7]
  have K8 : s8.M.length ≤ s.M.length + 2 := by have := congrArg List.length N8; simp [names] at this; omega
  have hfin : s.flush nw = s8 := by rw [e8, e7, e6, e5, e4, e3, e2, e1]; rfl
  rw [hfin]
  have HE1 := ahid e1
  have hz0 : s.L.length < 4294961000 ∧ s.M.length < 4294961000 := by omega
  have HF2x0 := ahid (show nmYieldEach ∉ names s1.M from by rw [N1]; exact hn_nmYieldEach)
  have HE2 := ahid e2
  have hz1 : s1.L.length < 4294961000 ∧ s1.M.length < 4294961000 := by omega
  have HE3 := ahid e3
  have hz2 : s2.L.length < 4294961000 ∧ s2.M.length < 4294961000 := by omega
  have HE4 := ahid e4
  have hz3 : s3.L.length < 4294961000 ∧ s3.M.length < 4294961000 := by omega
  have HF5x0 := ahid (show nmYieldIn ∉ names s4.M from by rw [N4]; simp only [List.mem_append, not_or]; exact ⟨hn_nmYieldIn, by decide⟩)
  have HE5 := ahid e5
  have hz4 : s4.L.length < 4294961000 ∧ s4.M.length < 4294961000 := by omega
  have HE6 := ahid e6
  have hz5 : s5.L.length < 4294961000 ∧ s5.M.length < 4294961000 := by omega
  have HE7 := ahid e7
  have hz6 : s6.L.length < 4294961000 ∧ s6.M.length < 4294961000 := by omega
  have HE8 := ahid e8
  have hz7 : s7.L.length < 4294961000 ∧ s7.M.length < 4294961000 := by omega
  obtain ⟨w0, hw0⟩ : ∃ w0, w0 = w.alloc (.cells #[.pointer (some ⟨mb, 0, none⟩)] 142) := ⟨_, rfl⟩
  have hb0 : Below w.heap.size w w0 := by rw [hw0]; exact (Below.refl _ w).alloc (Nat.le_refl _) _
  have hbx0 : SwBox w0 w.heap.size mb S := ⟨by rw [hw0]; simp [go_sem], fun hs => by have := (h.bs.lst.lo _ hs).2; omega, by have := h.lt; omega⟩
  have HB0 := ahid hb0
  have HX0 := ahid hbx0
  have H0 := ahid (h.keepb hb0)
  have HLT := ahid (show mb < w0.heap.size from Nat.lt_of_lt_of_le h.lt hb0.size)
  clear h hfin hb0 hbx0 e1 L1 N1 K1 e2 L2 N2 K2 e3 L3 N3 K3 e4 L4 N4 K4 e5 L5 N5 K5 e6 L6 N6 K6 e7 L7 N7 K7 e8 L8 N8 K8
  go_enter Tryz.func89, Tryz.ntmps89
  go_wp2_with fail
  rw [← hw0]
  clear hw0
  have c0 := HX0.out.c
  have HP := ahid (fun (v : World) (hb : Below w0.heap.size w0 v) => sput_lit H0.out (l := [⟨28, 1, 0, 0, false, 0⟩, ⟨26, 3, 0, 0, false, 0⟩, aluI 5 4 3 31, aluI 0 6 4 0, aluI 5 5 3 (-32)]) lit_ok0 (by simp) (by simp; omega) hb)
  have HK := ahid (show ∀ w', Below w0.heap.size w0 w' → w'.cell? ⟨w.heap.size, 0, none⟩ = some (.pointer (some ⟨mb, 0, none⟩)) from fun w' hb => (hb.cell (p := ⟨w.heap.size, 0, none⟩) (World.block_lt_of_cell? _ _ c0)).trans c0)
  have hbW : Below w0.heap.size w0 w0.drew := (Below.refl _ _).drew
  have hle : w0.heap.size ≤ w0.heap.size := Nat.le_refl _
  have HN1 := ahid (fun v => salu_any (op := 5) (rd := 4) (rs := 3) (n := 31) (by omega) v)
  have HN2 := ahid (fun v => salu_any (op := 0) (rd := 6) (rs := 4) (n := 0) (by omega) v)
  have HN3 := ahid (fun v => salu_any (op := 5) (rd := 5) (rs := 3) (n := (-32)) (by omega) v)
  go_region_held3 (fun w' => w'.cell? ⟨w.heap.size, 0, none⟩ = some (.pointer (some ⟨mb, 0, none⟩))) (first | (with_reducible exact c0) | (exact HK.out _ hbW) | (exact HK.out _ (hbW.alloc hbW.size _)) | (exact HX0.out.goc hg) | (refine HK.out _ ?_; go_grown; done))
    (first
      | (go_at_call 86; (with_reducible refine (HN1.out _).mono ?_); rintro e v ⟨rfl, hb0⟩; have hbW := hbW.trans (hb0.mono hbW.size); clear hb0)
      | (go_at_call 86; (with_reducible refine (HN2.out _).mono ?_); rintro e v ⟨rfl, hb0⟩; have hbW := hbW.trans (hb0.mono hbW.size); clear hb0)
      | (go_at_call 86; (with_reducible refine (HN3.out _).mono ?_); rintro e v ⟨rfl, hb0⟩; have hbW := hbW.trans (hb0.mono hbW.size); clear hb0)
      | (go_at_call 84; refine (HP.out _ hbW).mono ?_; rintro e w1 ⟨rfl, hg⟩))
  clear c0 HP HK hbW hle HN1 HN2 HN3
  rw [← HE1.out] at hg
  have hg1 := hg
  obtain ⟨S1, h1, o1, r1⟩ := hg1
  have H1 := ahid h1
  have sz1 : w0.heap.size ≤ w1.heap.size := o1.size
  have HX1 := ahid (HX0.out.to o1 r1)
  clear h1
  clear hg
  have c0 := HX1.out.c
  go_wp2_with fail
  refine (smark_any H1.out (nm0 := nmYieldEach) (by decide) (look_names HF2x0.out) (by omega) (by omega)).mono ?_
  rintro e w2 ⟨rfl, hg⟩
  clear c0
  rw [← HE2.out] at hg
  have hg2 := hg
  obtain ⟨S2, h2, o2, r2⟩ := hg2
  have H2 := ahid h2
  have sz2 : w0.heap.size ≤ w2.heap.size := Nat.le_trans sz1 o2.size
  have HX2 := ahid (HX1.out.to o2 r2)
  clear h2
  clear hg
  have c0 := HX2.out.c
  go_wp2_with fail
  refine (swindow_any H2.out (r := 4) (by omega) (by omega) (by omega)).mono ?_
  rintro e w3 ⟨rfl, hg⟩
  clear c0
  rw [← HE3.out] at hg
  have hg3 := hg
  obtain ⟨S3, h3, o3, r3⟩ := hg3
  have H3 := ahid h3
  have sz3 : w0.heap.size ≤ w3.heap.size := Nat.le_trans sz2 o3.size
  have HX3 := ahid (HX2.out.to o3 r3)
  clear h3
  clear hg
  have c0 := HX3.out.c
  have HQ := ahid (sdo_flush H3.out (b := w.heap.size) (sflush1_any H3.out c0 HX3.out.n (by omega)))
  go_wp2_with fail
  refine HQ.out.mono ?_
  rintro e w4 ⟨rfl, hg⟩
  clear HQ c0
  rw [← HE4.out] at hg
  have hg4 := hg
  obtain ⟨S4, h4, o4, r4⟩ := hg4
  have H4 := ahid h4
  have sz4 : w0.heap.size ≤ w4.heap.size := Nat.le_trans sz3 o4.size
  have HX4 := ahid (HX3.out.to o4 r4)
  clear h4
  clear hg
  have c0 := HX4.out.c
  go_wp2_with fail
  refine (snext_any H4.out (nm := nmYieldIn) (by decide) h32 HF5x0.out (by omega) (by omega)).mono ?_
  rintro e w5 ⟨rfl, hg⟩
  clear c0
  rw [← HE5.out] at hg
  have hg5 := hg
  obtain ⟨S5, h5, o5, r5⟩ := hg5
  have H5 := ahid h5
  have sz5 : w0.heap.size ≤ w5.heap.size := Nat.le_trans sz4 o5.size
  have HX5 := ahid (HX4.out.to o5 r5)
  clear h5
  clear hg
  go_wp2_with fail
  have c0 := HX5.out.c
  have HP := ahid (fun (v : World) (hb : Below w5.heap.size w5 v) => sput_lit H5.out (l := [bothI 9 2 1 4, aluI 5 2 2 1, cmpI 2 1]) lit_ok1 (by simp) (by simp; omega) hb)
  have HK := ahid (show ∀ w', Below w5.heap.size w5 w' → w'.cell? ⟨w.heap.size, 0, none⟩ = some (.pointer (some ⟨mb, 0, none⟩)) from fun w' hb => (hb.cell (p := ⟨w.heap.size, 0, none⟩) (World.block_lt_of_cell? _ _ c0)).trans c0)
  have hbW : Below w5.heap.size w5 w5.drew := (Below.refl _ _).drew
  have hle : w5.heap.size ≤ w5.heap.size := Nat.le_refl _
  have HN1 := ahid (fun v => sboth_any (op := 9) (rd := 2) (a := 1) (b := 4) (by omega) v)
  have HN2 := ahid (fun v => salu_any (op := 5) (rd := 2) (rs := 2) (n := 1) (by omega) v)
  have HN3 := ahid (fun v => scmp_any (rs := 2) (n := 1) v)
  go_region_held3 (fun w' => w'.cell? ⟨w.heap.size, 0, none⟩ = some (.pointer (some ⟨mb, 0, none⟩))) (first | (with_reducible exact c0) | (exact HK.out _ hbW) | (exact HK.out _ (hbW.alloc hbW.size _)) | (exact HX5.out.goc hg) | (refine HK.out _ ?_; go_grown; done))
    (first
      | (go_at_call 146; (with_reducible refine (HN1.out _).mono ?_); rintro e v ⟨rfl, hb0⟩; have hbW := hbW.trans (hb0.mono hbW.size); clear hb0)
      | (go_at_call 86; (with_reducible refine (HN2.out _).mono ?_); rintro e v ⟨rfl, hb0⟩; have hbW := hbW.trans (hb0.mono hbW.size); clear hb0)
      | (go_at_call 147; (with_reducible refine (HN3.out _).mono ?_); rintro e v ⟨rfl, hb0⟩; have hbW := hbW.trans (hb0.mono hbW.size); clear hb0)
      | (go_at_call 84; refine (HP.out _ hbW).mono ?_; rintro e w6 ⟨rfl, hg⟩))
  clear c0 HP HK hbW hle HN1 HN2 HN3
  rw [← HE6.out] at hg
  have hg6 := hg
  obtain ⟨S6, h6, o6, r6⟩ := hg6
  have H6 := ahid h6
  have sz6 : w0.heap.size ≤ w6.heap.size := Nat.le_trans sz5 o6.size
  have HX6 := ahid (HX5.out.to o6 r6)
  clear h6
  clear hg
  have c0 := HX6.out.c
  go_wp2_with fail
  refine (sjump_any H6.out (cd := 2) (nm0 := nmYieldEach) (by omega) (by omega) (by decide) (by omega)).mono ?_
  rintro e w7 ⟨rfl, hg⟩
  clear c0
  rw [← HE7.out] at hg
  have hg7 := hg
  obtain ⟨S7, h7, o7, r7⟩ := hg7
  have H7 := ahid h7
  have sz7 : w0.heap.size ≤ w7.heap.size := Nat.le_trans sz6 o7.size
  have HX7 := ahid (HX6.out.to o7 r7)
  clear h7
  clear hg
  have c0 := HX7.out.c
  go_wp2_with fail
  refine (swindow_any H7.out (r := 6) (by omega) (by omega) (by omega)).mono ?_
  rintro e w8 ⟨rfl, hg⟩
  clear c0
  rw [← HE8.out] at hg
  have hg8 := hg
  obtain ⟨S8, h8, o8, r8⟩ := hg8
  have H8 := ahid h8
  have sz8 : w0.heap.size ≤ w8.heap.size := Nat.le_trans sz7 o8.size
  have HX8 := ahid (HX7.out.to o8 r8)
  clear h8
  have HG := ahid (SwGo.then HLT.out o1 r1 (SwGo.then (Nat.lt_of_lt_of_le HLT.out (sz1)) o2 r2 (SwGo.then (Nat.lt_of_lt_of_le HLT.out (sz2)) o3 r3 (SwGo.then (Nat.lt_of_lt_of_le HLT.out (sz3)) o4 r4 (SwGo.then (Nat.lt_of_lt_of_le HLT.out (sz4)) o5 r5 (SwGo.then (Nat.lt_of_lt_of_le HLT.out (sz5)) o6 r6 (SwGo.then (Nat.lt_of_lt_of_le HLT.out (sz6)) o7 r7 hg)))))))
  clear hg
  go_wp2_with fail
  go_end0
  exact ⟨rfl, HG.out.behind HB0.out⟩
set_option maxRecDepth 100000 in
set_option maxHeartbeats 8000000 in
theorem skeep_any {W w : World} {pa mb nw : Nat} {S : Nat → Prop} {s : Bs} (h : SwAt W w pa mb nw S s) (hM : s.M.length < 4294960000) (hL : s.L.length < 4294960000) :
    Calls Tryz.prog 90 #[.pointer (some ⟨mb, 0, none⟩)] w fun e w' => e = .returned (.tuple #[]) ∧ SwGo W w pa mb nw S (s.keep) w' := by
  have L0 : s.L.length ≤ s.L.length := Nat.le_refl _
  have K0 : s.M.length ≤ s.M.length := Nat.le_refl _
  obtain ⟨s1, e1⟩ : ∃ x, x = s.put [ldI 1 0 128, aluI 8 1 1 4, ⟨30, 2, 0, 0, true, 0⟩, stI 2 1 64, stI 14 1 68] := ⟨_, rfl⟩
  have L1 : s1.L.length ≤ s.L.length + 5 := by rw [e1, Bs.put_len]; first | omega | (simp only [List.length_cons, List.length_nil]; omega)
  have N1 : names s1.M = names s.M := by rw [e1, names_put]
  have K1 : s1.M.length ≤ s.M.length + 0 := by have := congrArg List.length N1; simp [names] at this; omega
  have hfin : s.keep = s1 := by rw [e1]; rfl
  rw [hfin]
  have HE1 := ahid e1
  have hz0 : s.L.length < 4294961000 ∧ s.M.length < 4294961000 := by omega
  have H0 := ahid h
  have HLT := ahid h.lt
  obtain ⟨w0, rfl⟩ : ∃ W, W = w := ⟨_, rfl⟩
  clear h hfin e1 L1 N1 K1
  go_enter Tryz.func90, Tryz.ntmps90
  go_wp2_with fail
  refine (sld_any (rd := 1) (rs := 0) (n := 128) w0).mono ?_
  rintro e v0 ⟨rfl, hb0⟩
  go_wp2_with fail
  refine (salu_any (op := 8) (rd := 1) (rs := 1) (n := 4) (by omega) v0).mono ?_
  rintro e v1 ⟨rfl, hb1⟩
  replace hb1 := hb0.trans (hb1.mono hb0.size)
  go_wp2_with fail
  refine (sst_any (rd := 2) (rs := 1) (n := 64) v1).mono ?_
  rintro e v2 ⟨rfl, hb2⟩
  replace hb2 := hb1.trans (hb2.mono hb1.size)
  go_wp2_with fail
  refine (sst_any (rd := 14) (rs := 1) (n := 68) v2).mono ?_
  rintro e v3 ⟨rfl, hb3⟩
  replace hb3 := hb2.trans (hb3.mono hb2.size)
  go_wp2_with fail
  refine (sput_lit H0.out (l := [ldI 1 0 128, aluI 8 1 1 4, ⟨30, 2, 0, 0, true, 0⟩, stI 2 1 64, stI 14 1 68]) lit_ok2 (by simp) (by simp; omega) hb3).mono ?_
  rintro e w1 ⟨rfl, hg⟩
  clear hb0 hb1 hb2 hb3
  rw [← HE1.out] at hg
  have hg1 := hg
  obtain ⟨S1, h1, o1, r1⟩ := hg1
  have H1 := ahid h1
  have sz1 : w0.heap.size ≤ w1.heap.size := o1.size
  clear h1
  have HG := ahid hg
  clear hg
  go_wp2_with fail
  go_end0
  exact ⟨rfl, HG.out⟩
set_option maxRecDepth 100000 in
set_option maxHeartbeats 8000000 in
theorem schoose_any {W w : World} {pa mb nw : Nat} {S : Nat → Prop} {s : Bs} (h : SwAt W w pa mb nw S s) (hn_nmSwapCount : nmSwapCount ∉ names s.M) (hn_nmSwapEach : nmSwapEach ∉ names s.M) (hn_nmSwapNot : nmSwapNot ∉ names s.M) (hn_nmSwapIt : nmSwapIt ∉ names s.M) (hM : s.M.length < 4294960000) (hL : s.L.length < 4294960000) :
    Calls Tryz.prog 91 #[.pointer (some ⟨mb, 0, none⟩)] w fun e w' => e = .returned (.tuple #[]) ∧ SwGo W w pa mb nw S (s.choose) w' := by
  have L0 : s.L.length ≤ s.L.length := Nat.le_refl _
  have K0 : s.M.length ≤ s.M.length := Nat.le_refl _
  obtain ⟨s1, e1⟩ : ∃ x, x = s.put [⟨34, 1, 0, 0, false, 0⟩, ldI 3 0 132, aluI 0 2 0 0, aluI 0 4 0 0] := ⟨_, rfl⟩
  have L1 : s1.L.length ≤ s.L.length + 4 := by rw [e1, Bs.put_len]; first | omega | (simp only [List.length_cons, List.length_nil]; omega)
  have N1 : names s1.M = names s.M := by rw [e1, names_put]
  have K1 : s1.M.length ≤ s.M.length + 0 := by have := congrArg List.length N1; simp [names] at this; omega
  obtain ⟨s2, e2⟩ : ∃ x, x = s1.mark nmSwapCount := ⟨_, rfl⟩
  have L2 : s2.L.length ≤ s.L.length + 4 := by rw [e2, len_mark]; first | omega | (simp only [List.length_cons, List.length_nil]; omega)
  have N2 : names s2.M = names s.M ++ [nmSwapCount] := by rw [e2, names_mark, N1]
  have K2 : s2.M.length ≤ s.M.length + 1 := by have := congrArg List.length N2; simp [names] at this; omega
  obtain ⟨s3, e3⟩ : ∃ x, x = s2.put [aluI 8 5 4 4, ldI 5 5 76, bothI 0 2 2 5, aluI 0 4 4 1, ⟨16, 0, 4, 3, false, 0⟩] := ⟨_, rfl⟩
  have L3 : s3.L.length ≤ s.L.length + 9 := by rw [e3, Bs.put_len]; first | omega | (simp only [List.length_cons, List.length_nil]; omega)
  have N3 : names s3.M = names s.M ++ [nmSwapCount] := by rw [e3, names_put, N2]
  have K3 : s3.M.length ≤ s.M.length + 1 := by have := congrArg List.length N3; simp [names] at this; omega
  obtain ⟨s4, e4⟩ : ∃ x, x = s3.jump 2 nmSwapCount := ⟨_, rfl⟩
  have L4 : s4.L.length ≤ s.L.length + 10 := by rw [e4, len_jump]; first | omega | (simp only [List.length_cons, List.length_nil]; omega)
  have N4 : names s4.M = names s.M ++ [nmSwapCount] := by rw [e4, names_jump, N3]
  have K4 : s4.M.length ≤ s.M.length + 1 := by have := congrArg List.length N4; simp [names] at this; omega
  obtain ⟨s5, e5⟩ : ∃ x, x = s4.put [aluI 9 5 1 16, bothI 4 5 5 2, aluI 8 5 5 16, aluI 8 1 1 16, aluI 9 1 1 16, bothI 0 1 1 5, bothI 4 1 1 2, aluI 0 4 0 0] := ⟨_, rfl⟩
  have L5 : s5.L.length ≤ s.L.length + 18 := by rw [e5, Bs.put_len]; first | omega | (simp only [List.length_cons, List.length_nil]; omega)
  have N5 : names s5.M = names s.M ++ [nmSwapCount] := by rw [e5, names_put, N4]
  have K5 : s5.M.length ≤ s.M.length + 1 := by have := congrArg List.length N5; simp [names] at this; omega
  obtain ⟨s6, e6⟩ : ∃ x, x = s5.mark nmSwapEach := ⟨_, rfl⟩
  have L6 : s6.L.length ≤ s.L.length + 18 := by rw [e6, len_mark]; first | omega | (simp only [List.length_cons, List.length_nil]; omega)
  have N6 : names s6.M = names s.M ++ [nmSwapCount, nmSwapEach] := by rw [e6, names_mark, N5]; simp
  have K6 : s6.M.length ≤ s.M.length + 2 := by have := congrArg List.length N6; simp [names] at this; omega
  obtain ⟨s7, e7⟩ : ∃ x, x = s6.put [aluI 8 5 4 4, ldI 6 5 76, cmpI 6 1] := ⟨_, rfl⟩
  have L7 : s7.L.length ≤ s.L.length + 21 := by rw [e7, Bs.put_len]; first | omega | (simp only [List.length_cons, List.length_nil]; omega)
  have N7 : names s7.M = names s.M ++ [nmSwapCount, nmSwapEach] := by rw [e7, names_put, N6]
  have K7 : s7.M.length ≤ s.M.length + 2 := by have := congrArg List.length N7; simp [names] at this; omega
  obtain ⟨s8, e8⟩ : ∃ x, x = s7.jump 2 nmSwapNot := ⟨_, rfl⟩
  have L8 : s8.L.length ≤ s.L.length + 22 := by rw [e8, len_jump]; first | omega | (simp only [List.length_cons, List.length_nil]; omega)
  have N8 : names s8.M = names s.M ++ [nmSwapCount, nmSwapEach] := by rw [e8, names_jump, N7]
  have K8 : s8.M.length ≤ s.M.length + 2 := by have := congrArg List.length N8; simp [names] at this; omega
  obtain ⟨s9, e9⟩ : ∃ x, x = s8.put [cmpI 1 0] := ⟨_, rfl⟩
  have L9 : s9.L.length ≤ s.L.length + 23 := by rw [e9, Bs.put_len]; first | omega | (simp only [List.length_cons, List.length_nil]; omega)
  have N9 : names s9.M = names s.M ++ [nmSwapCount, nmSwapEach] := by rw [e9, names_put, N8]
  have K9 : s9.M.length ≤ s.M.length + 2 := by have := congrArg List.length N9; simp [names] at this; omega
  obtain ⟨s10, e10⟩ : ∃ x, x = s9.jump 1 nmSwapIt := ⟨_, rfl⟩
  have L10 : s10.L.length ≤ s.L.length + 24 := by rw [e10, len_jump]; first | omega | (simp only [List.length_cons, List.length_nil]; omega)
  have N10 : names s10.M = names s.M ++ [nmSwapCount, nmSwapEach] := by rw [e10, names_jump, N9]
  have K10 : s10.M.length ≤ s.M.length + 2 := by have := congrArg List.length N10; simp [names] at this; omega
  obtain ⟨s11, e11⟩ : ∃ x, x = s10.put [aluI 1 1 1 1] := ⟨_, rfl⟩
  have L11 : s11.L.length ≤ s.L.length + 25 := by rw [e11, Bs.put_len]; first | omega | (simp only [List.length_cons, List.length_nil]; omega)
  have N11 : names s11.M = names s.M ++ [nmSwapCount, nmSwapEach] := by rw [e11, names_put, N10]
  have K11 : s11.M.length ≤ s.M.length + 2 := by have := congrArg List.length N11; simp [names] at this; omega
  obtain ⟨s12, e12⟩ : ∃ x, x = s11.mark nmSwapNot := ⟨_, rfl⟩
  have L12 : s12.L.length ≤ s.L.length + 25 := by rw [e12, len_mark]; first | omega | (simp only [List.length_cons, List.length_nil]; omega)
  have N12 : names s12.M = names s.M ++ [nmSwapCount, nmSwapEach, nmSwapNot] := by rw [e12, names_mark, N11]; simp
  have K12 : s12.M.length ≤ s.M.length + 3 := by have := congrArg List.length N12; simp [names] at this; omega
  obtain ⟨s13, e13⟩ : ∃ x, x = s12.put [aluI 0 4 4 1] := ⟨_, rfl⟩
  have L13 : s13.L.length ≤ s.L.length + 26 := by rw [e13, Bs.put_len]; first | omega | (simp only [List.length_cons, List.length_nil]; omega)
  have N13 : names s13.M = names s.M ++ [nmSwapCount, nmSwapEach, nmSwapNot] := by rw [e13, names_put, N12]
  have K13 : s13.M.length ≤ s.M.length + 3 := by have := congrArg List.length N13; simp [names] at this; omega
  obtain ⟨s14, e14⟩ : ∃ x, x = s13.jump 0 nmSwapEach := ⟨_, rfl⟩
  have L14 : s14.L.length ≤ s.L.length + 27 := by rw [e14, len_jump]; first | omega | (simp only [List.length_cons, List.length_nil]; omega)
  have N14 : names s14.M = names s.M ++ [nmSwapCount, nmSwapEach, nmSwapNot] := by rw [e14, names_jump, N13]
  have K14 : s14.M.length ≤ s.M.length + 3 := by have := congrArg List.length N14; simp [names] at this; omega
  obtain ⟨s15, e15⟩ : ∃ x, x = s14.mark nmSwapIt := ⟨_, rfl⟩
  have L15 : s15.L.length ≤ s.L.length + 27 := by rw [e15, len_mark]; first | omega | (simp only [List.length_cons, List.length_nil]; omega)
  have N15 : names s15.M = names s.M ++ [nmSwapCount, nmSwapEach, nmSwapNot, nmSwapIt] := by rw [e15, names_mark, N14]; simp
  have K15 : s15.M.length ≤ s.M.length + 4 := by have := congrArg List.length N15; simp [names] at this; omega
  have hfin : s.choose = s15 := by rw [e15, e14, e13, e12, e11, e10, e9, e8, e7, e6, e5, e4, e3, e2, e1]; rfl
  rw [hfin]
  have HE1 := ahid e1
  have hz0 : s.L.length < 4294961000 ∧ s.M.length < 4294961000 := by omega
  have HF2x0 := ahid (show nmSwapCount ∉ names s1.M from by rw [N1]; exact hn_nmSwapCount)
  have HE2 := ahid e2
  have hz1 : s1.L.length < 4294961000 ∧ s1.M.length < 4294961000 := by omega
  have HE3 := ahid e3
  have hz2 : s2.L.length < 4294961000 ∧ s2.M.length < 4294961000 := by omega
  have HE4 := ahid e4
  have hz3 : s3.L.length < 4294961000 ∧ s3.M.length < 4294961000 := by omega
  have HE5 := ahid e5
  have hz4 : s4.L.length < 4294961000 ∧ s4.M.length < 4294961000 := by omega
  have HF6x0 := ahid (show nmSwapEach ∉ names s5.M from by rw [N5]; simp only [List.mem_append, not_or]; exact ⟨hn_nmSwapEach, by decide⟩)
  have HE6 := ahid e6
  have hz5 : s5.L.length < 4294961000 ∧ s5.M.length < 4294961000 := by omega
  have HE7 := ahid e7
  have hz6 : s6.L.length < 4294961000 ∧ s6.M.length < 4294961000 := by omega
  have HE8 := ahid e8
  have hz7 : s7.L.length < 4294961000 ∧ s7.M.length < 4294961000 := by omega
  have HE9 := ahid e9
  have hz8 : s8.L.length < 4294961000 ∧ s8.M.length < 4294961000 := by omega
  have HE10 := ahid e10
  have hz9 : s9.L.length < 4294961000 ∧ s9.M.length < 4294961000 := by omega
  have HE11 := ahid e11
  have hz10 : s10.L.length < 4294961000 ∧ s10.M.length < 4294961000 := by omega
  have HF12x0 := ahid (show nmSwapNot ∉ names s11.M from by rw [N11]; simp only [List.mem_append, not_or]; exact ⟨hn_nmSwapNot, by decide⟩)
  have HE12 := ahid e12
  have hz11 : s11.L.length < 4294961000 ∧ s11.M.length < 4294961000 := by omega
  have HE13 := ahid e13
  have hz12 : s12.L.length < 4294961000 ∧ s12.M.length < 4294961000 := by omega
  have HE14 := ahid e14
  have hz13 : s13.L.length < 4294961000 ∧ s13.M.length < 4294961000 := by omega
  have HF15x0 := ahid (show nmSwapIt ∉ names s14.M from by rw [N14]; simp only [List.mem_append, not_or]; exact ⟨hn_nmSwapIt, by decide⟩)
  have HE15 := ahid e15
  have hz14 : s14.L.length < 4294961000 ∧ s14.M.length < 4294961000 := by omega
  have H0 := ahid h
  have HLT := ahid h.lt
  obtain ⟨w0, rfl⟩ : ∃ W, W = w := ⟨_, rfl⟩
  clear h hfin e1 L1 N1 K1 e2 L2 N2 K2 e3 L3 N3 K3 e4 L4 N4 K4 e5 L5 N5 K5 e6 L6 N6 K6 e7 L7 N7 K7 e8 L8 N8 K8 e9 L9 N9 K9 e10 L10 N10 K10 e11 L11 N11 K11 e12 L12 N12 K12 e13 L13 N13 K13 e14 L14 N14 K14 e15 L15 N15 K15
  go_enter Tryz.func91, Tryz.ntmps91
  go_wp2_with fail
  refine (sld_any (rd := 3) (rs := 0) (n := 132) w0).mono ?_
  rintro e v0 ⟨rfl, hb0⟩
  go_wp2_with fail
  refine (salu_any (op := 0) (rd := 2) (rs := 0) (n := 0) (by omega) v0).mono ?_
  rintro e v1 ⟨rfl, hb1⟩
  replace hb1 := hb0.trans (hb1.mono hb0.size)
  go_wp2_with fail
  refine (salu_any (op := 0) (rd := 4) (rs := 0) (n := 0) (by omega) v1).mono ?_
  rintro e v2 ⟨rfl, hb2⟩
  replace hb2 := hb1.trans (hb2.mono hb1.size)
  go_wp2_with fail
  refine (sput_lit H0.out (l := [⟨34, 1, 0, 0, false, 0⟩, ldI 3 0 132, aluI 0 2 0 0, aluI 0 4 0 0]) lit_ok3 (by simp) (by simp; omega) hb2).mono ?_
  rintro e w1 ⟨rfl, hg⟩
  clear hb0 hb1 hb2
  rw [← HE1.out] at hg
  have hg1 := hg
  obtain ⟨S1, h1, o1, r1⟩ := hg1
  have H1 := ahid h1
  have sz1 : w0.heap.size ≤ w1.heap.size := o1.size
  clear h1
  clear hg
  go_wp2_with fail
  refine (smark_any H1.out (nm0 := nmSwapCount) (by decide) (look_names HF2x0.out) (by omega) (by omega)).mono ?_
  rintro e w2 ⟨rfl, hg⟩
  rw [← HE2.out] at hg
  have hg2 := hg
  obtain ⟨S2, h2, o2, r2⟩ := hg2
  have H2 := ahid h2
  have sz2 : w0.heap.size ≤ w2.heap.size := Nat.le_trans sz1 o2.size
  clear h2
  clear hg
  go_wp2_with fail
  refine (salu_any (op := 8) (rd := 5) (rs := 4) (n := 4) (by omega) w2).mono ?_
  rintro e v0 ⟨rfl, hb0⟩
  go_wp2_with fail
  refine (sld_any (rd := 5) (rs := 5) (n := 76) v0).mono ?_
  rintro e v1 ⟨rfl, hb1⟩
  replace hb1 := hb0.trans (hb1.mono hb0.size)
  go_wp2_with fail
  refine (sboth_any (op := 0) (rd := 2) (a := 2) (b := 5) (by omega) v1).mono ?_
  rintro e v2 ⟨rfl, hb2⟩
  replace hb2 := hb1.trans (hb2.mono hb1.size)
  go_wp2_with fail
  refine (salu_any (op := 0) (rd := 4) (rs := 4) (n := 1) (by omega) v2).mono ?_
  rintro e v3 ⟨rfl, hb3⟩
  replace hb3 := hb2.trans (hb3.mono hb2.size)
  go_wp2_with fail
  refine (sput_lit H2.out (l := [aluI 8 5 4 4, ldI 5 5 76, bothI 0 2 2 5, aluI 0 4 4 1, ⟨16, 0, 4, 3, false, 0⟩]) lit_ok4 (by simp) (by simp; omega) hb3).mono ?_
  rintro e w3 ⟨rfl, hg⟩
  clear hb0 hb1 hb2 hb3
  rw [← HE3.out] at hg
  have hg3 := hg
  obtain ⟨S3, h3, o3, r3⟩ := hg3
  have H3 := ahid h3
  have sz3 : w0.heap.size ≤ w3.heap.size := Nat.le_trans sz2 o3.size
  clear h3
  clear hg
  go_wp2_with fail
  refine (sjump_any H3.out (cd := 2) (nm0 := nmSwapCount) (by omega) (by omega) (by decide) (by omega)).mono ?_
  rintro e w4 ⟨rfl, hg⟩
  rw [← HE4.out] at hg
  have hg4 := hg
  obtain ⟨S4, h4, o4, r4⟩ := hg4
  have H4 := ahid h4
  have sz4 : w0.heap.size ≤ w4.heap.size := Nat.le_trans sz3 o4.size
  clear h4
  clear hg
  go_wp2_with fail
  refine (salu_any (op := 9) (rd := 5) (rs := 1) (n := 16) (by omega) w4).mono ?_
  rintro e v0 ⟨rfl, hb0⟩
  go_wp2_with fail
  refine (sboth_any (op := 4) (rd := 5) (a := 5) (b := 2) (by omega) v0).mono ?_
  rintro e v1 ⟨rfl, hb1⟩
  replace hb1 := hb0.trans (hb1.mono hb0.size)
  go_wp2_with fail
  refine (salu_any (op := 8) (rd := 5) (rs := 5) (n := 16) (by omega) v1).mono ?_
  rintro e v2 ⟨rfl, hb2⟩
  replace hb2 := hb1.trans (hb2.mono hb1.size)
  go_wp2_with fail
  refine (salu_any (op := 8) (rd := 1) (rs := 1) (n := 16) (by omega) v2).mono ?_
  rintro e v3 ⟨rfl, hb3⟩
  replace hb3 := hb2.trans (hb3.mono hb2.size)
  go_wp2_with fail
  refine (salu_any (op := 9) (rd := 1) (rs := 1) (n := 16) (by omega) v3).mono ?_
  rintro e v4 ⟨rfl, hb4⟩
  replace hb4 := hb3.trans (hb4.mono hb3.size)
  go_wp2_with fail
  refine (sboth_any (op := 0) (rd := 1) (a := 1) (b := 5) (by omega) v4).mono ?_
  rintro e v5 ⟨rfl, hb5⟩
  replace hb5 := hb4.trans (hb5.mono hb4.size)
  go_wp2_with fail
  refine (sboth_any (op := 4) (rd := 1) (a := 1) (b := 2) (by omega) v5).mono ?_
  rintro e v6 ⟨rfl, hb6⟩
  replace hb6 := hb5.trans (hb6.mono hb5.size)
  go_wp2_with fail
  refine (salu_any (op := 0) (rd := 4) (rs := 0) (n := 0) (by omega) v6).mono ?_
  rintro e v7 ⟨rfl, hb7⟩
  replace hb7 := hb6.trans (hb7.mono hb6.size)
  go_wp2_with fail
  refine (sput_lit H4.out (l := [aluI 9 5 1 16, bothI 4 5 5 2, aluI 8 5 5 16, aluI 8 1 1 16, aluI 9 1 1 16, bothI 0 1 1 5, bothI 4 1 1 2, aluI 0 4 0 0]) lit_ok5 (by simp) (by simp; omega) hb7).mono ?_
  rintro e w5 ⟨rfl, hg⟩
  clear hb0 hb1 hb2 hb3 hb4 hb5 hb6 hb7
  rw [← HE5.out] at hg
  have hg5 := hg
  obtain ⟨S5, h5, o5, r5⟩ := hg5
  have H5 := ahid h5
  have sz5 : w0.heap.size ≤ w5.heap.size := Nat.le_trans sz4 o5.size
  clear h5
  clear hg
  go_wp2_with fail
  refine (smark_any H5.out (nm0 := nmSwapEach) (by decide) (look_names HF6x0.out) (by omega) (by omega)).mono ?_
  rintro e w6 ⟨rfl, hg⟩
  rw [← HE6.out] at hg
  have hg6 := hg
  obtain ⟨S6, h6, o6, r6⟩ := hg6
  have H6 := ahid h6
  have sz6 : w0.heap.size ≤ w6.heap.size := Nat.le_trans sz5 o6.size
  clear h6
  clear hg
  go_wp2_with fail
  refine (salu_any (op := 8) (rd := 5) (rs := 4) (n := 4) (by omega) w6).mono ?_
  rintro e v0 ⟨rfl, hb0⟩
  go_wp2_with fail
  refine (sld_any (rd := 6) (rs := 5) (n := 76) v0).mono ?_
  rintro e v1 ⟨rfl, hb1⟩
  replace hb1 := hb0.trans (hb1.mono hb0.size)
  go_wp2_with fail
  refine (scmp_any (rs := 6) (n := 1) v1).mono ?_
  rintro e v2 ⟨rfl, hb2⟩
  replace hb2 := hb1.trans (hb2.mono hb1.size)
  go_wp2_with fail
  refine (sput_lit H6.out (l := [aluI 8 5 4 4, ldI 6 5 76, cmpI 6 1]) lit_ok6 (by simp) (by simp; omega) hb2).mono ?_
  rintro e w7 ⟨rfl, hg⟩
  clear hb0 hb1 hb2
  rw [← HE7.out] at hg
  have hg7 := hg
  obtain ⟨S7, h7, o7, r7⟩ := hg7
  have H7 := ahid h7
  have sz7 : w0.heap.size ≤ w7.heap.size := Nat.le_trans sz6 o7.size
  clear h7
  clear hg
  go_wp2_with fail
  refine (sjump_any H7.out (cd := 2) (nm0 := nmSwapNot) (by omega) (by omega) (by decide) (by omega)).mono ?_
  rintro e w8 ⟨rfl, hg⟩
  rw [← HE8.out] at hg
  have hg8 := hg
  obtain ⟨S8, h8, o8, r8⟩ := hg8
  have H8 := ahid h8
  have sz8 : w0.heap.size ≤ w8.heap.size := Nat.le_trans sz7 o8.size
  clear h8
  clear hg
  go_wp2_with fail
  refine (scmp_any (rs := 1) (n := 0) w8).mono ?_
  rintro e v0 ⟨rfl, hb0⟩
  go_wp2_with fail
  refine (sput_lit H8.out (l := [cmpI 1 0]) lit_ok7 (by simp) (by simp; omega) hb0).mono ?_
  rintro e w9 ⟨rfl, hg⟩
  clear hb0
  rw [← HE9.out] at hg
  have hg9 := hg
  obtain ⟨S9, h9, o9, r9⟩ := hg9
  have H9 := ahid h9
  have sz9 : w0.heap.size ≤ w9.heap.size := Nat.le_trans sz8 o9.size
  clear h9
  clear hg
  go_wp2_with fail
  refine (sjump_any H9.out (cd := 1) (nm0 := nmSwapIt) (by omega) (by omega) (by decide) (by omega)).mono ?_
  rintro e w10 ⟨rfl, hg⟩
  rw [← HE10.out] at hg
  have hg10 := hg
  obtain ⟨S10, h10, o10, r10⟩ := hg10
  have H10 := ahid h10
  have sz10 : w0.heap.size ≤ w10.heap.size := Nat.le_trans sz9 o10.size
  clear h10
  clear hg
  go_wp2_with fail
  refine (salu_any (op := 1) (rd := 1) (rs := 1) (n := 1) (by omega) w10).mono ?_
  rintro e v0 ⟨rfl, hb0⟩
  go_wp2_with fail
  refine (sput_lit H10.out (l := [aluI 1 1 1 1]) lit_ok8 (by simp) (by simp; omega) hb0).mono ?_
  rintro e w11 ⟨rfl, hg⟩
  clear hb0
  rw [← HE11.out] at hg
  have hg11 := hg
  obtain ⟨S11, h11, o11, r11⟩ := hg11
  have H11 := ahid h11
  have sz11 : w0.heap.size ≤ w11.heap.size := Nat.le_trans sz10 o11.size
  clear h11
  clear hg
  go_wp2_with fail
  refine (smark_any H11.out (nm0 := nmSwapNot) (by decide) (look_names HF12x0.out) (by omega) (by omega)).mono ?_
  rintro e w12 ⟨rfl, hg⟩
  rw [← HE12.out] at hg
  have hg12 := hg
  obtain ⟨S12, h12, o12, r12⟩ := hg12
  have H12 := ahid h12
  have sz12 : w0.heap.size ≤ w12.heap.size := Nat.le_trans sz11 o12.size
  clear h12
  clear hg
  go_wp2_with fail
  refine (salu_any (op := 0) (rd := 4) (rs := 4) (n := 1) (by omega) w12).mono ?_
  rintro e v0 ⟨rfl, hb0⟩
  go_wp2_with fail
  refine (sput_lit H12.out (l := [aluI 0 4 4 1]) lit_ok9 (by simp) (by simp; omega) hb0).mono ?_
  rintro e w13 ⟨rfl, hg⟩
  clear hb0
  rw [← HE13.out] at hg
  have hg13 := hg
  obtain ⟨S13, h13, o13, r13⟩ := hg13
  have H13 := ahid h13
  have sz13 : w0.heap.size ≤ w13.heap.size := Nat.le_trans sz12 o13.size
  clear h13
  clear hg
  go_wp2_with fail
  refine (sjump_any H13.out (cd := 0) (nm0 := nmSwapEach) (by omega) (by omega) (by decide) (by omega)).mono ?_
  rintro e w14 ⟨rfl, hg⟩
  rw [← HE14.out] at hg
  have hg14 := hg
  obtain ⟨S14, h14, o14, r14⟩ := hg14
  have H14 := ahid h14
  have sz14 : w0.heap.size ≤ w14.heap.size := Nat.le_trans sz13 o14.size
  clear h14
  clear hg
  go_wp2_with fail
  refine (smark_any H14.out (nm0 := nmSwapIt) (by decide) (look_names HF15x0.out) (by omega) (by omega)).mono ?_
  rintro e w15 ⟨rfl, hg⟩
  rw [← HE15.out] at hg
  have hg15 := hg
  obtain ⟨S15, h15, o15, r15⟩ := hg15
  have H15 := ahid h15
  have sz15 : w0.heap.size ≤ w15.heap.size := Nat.le_trans sz14 o15.size
  clear h15
  have HG := ahid (SwGo.then HLT.out o1 r1 (SwGo.then (Nat.lt_of_lt_of_le HLT.out (sz1)) o2 r2 (SwGo.then (Nat.lt_of_lt_of_le HLT.out (sz2)) o3 r3 (SwGo.then (Nat.lt_of_lt_of_le HLT.out (sz3)) o4 r4 (SwGo.then (Nat.lt_of_lt_of_le HLT.out (sz4)) o5 r5 (SwGo.then (Nat.lt_of_lt_of_le HLT.out (sz5)) o6 r6 (SwGo.then (Nat.lt_of_lt_of_le HLT.out (sz6)) o7 r7 (SwGo.then (Nat.lt_of_lt_of_le HLT.out (sz7)) o8 r8 (SwGo.then (Nat.lt_of_lt_of_le HLT.out (sz8)) o9 r9 (SwGo.then (Nat.lt_of_lt_of_le HLT.out (sz9)) o10 r10 (SwGo.then (Nat.lt_of_lt_of_le HLT.out (sz10)) o11 r11 (SwGo.then (Nat.lt_of_lt_of_le HLT.out (sz11)) o12 r12 (SwGo.then (Nat.lt_of_lt_of_le HLT.out (sz12)) o13 r13 (SwGo.then (Nat.lt_of_lt_of_le HLT.out (sz13)) o14 r14 hg))))))))))))))
  clear hg
  go_wp2_with fail
  go_end0
  exact ⟨rfl, HG.out⟩
set_option maxRecDepth 100000 in
set_option maxHeartbeats 8000000 in
theorem sresume_any {W w : World} {pa mb nw : Nat} {S : Nat → Prop} {s : Bs} (h : SwAt W w pa mb nw S s) (h32 : nw ≤ 32) (hn_nmSwapIn : nmSwapIn ∉ names s.M) (hM : s.M.length < 4294960000) (hL : s.L.length < 4294960000) :
    Calls Tryz.prog 92 #[.pointer (some ⟨mb, 0, none⟩)] w fun e w' => e = .returned (.tuple #[]) ∧ SwGo W w pa mb nw S (s.resume nw) w' := by
  have L0 : s.L.length ≤ s.L.length := Nat.le_refl _
  have K0 : s.M.length ≤ s.M.length := Nat.le_refl _
  obtain ⟨s1, e1⟩ : ∃ x, x = s.put [stI 4 0 128, ldI 1 5 72, stI 1 0 136, ldI 1 5 64, ⟨31, 0, 1, 0, true, 0⟩, ldI 14 5 68, ⟨26, 3, 0, 0, false, 0⟩, aluI 5 4 3 31] := ⟨_, rfl⟩
  have L1 : s1.L.length ≤ s.L.length + 8 := by rw [e1, Bs.put_len]; first | omega | (simp only [List.length_cons, List.length_nil]; omega)
  have N1 : names s1.M = names s.M := by rw [e1, names_put]
  have K1 : s1.M.length ≤ s.M.length + 0 := by have := congrArg List.length N1; simp [names] at this; omega
  obtain ⟨s2, e2⟩ : ∃ x, x = s1.next nw nmSwapIn := ⟨_, rfl⟩
  have L2 : s2.L.length ≤ s.L.length + 12 := by rw [e2, len_next]; first | omega | (simp only [List.length_cons, List.length_nil]; omega)
  have N2 : names s2.M = names s.M ++ [nmSwapIn] := by rw [e2, names_next, N1]
  have K2 : s2.M.length ≤ s.M.length + 1 := by have := congrArg List.length N2; simp [names] at this; omega
  obtain ⟨s3, e3⟩ : ∃ x, x = s2.put [aluI 0 1 0 1, bothI 8 1 1 4, ⟨29, 0, 1, 0, false, 0⟩] := ⟨_, rfl⟩
  have L3 : s3.L.length ≤ s.L.length + 15 := by rw [e3, Bs.put_len]; first | omega | (simp only [List.length_cons, List.length_nil]; omega)
  have N3 : names s3.M = names s.M ++ [nmSwapIn] := by rw [e3, names_put, N2]
  have K3 : s3.M.length ≤ s.M.length + 1 := by have := congrArg List.length N3; simp [names] at this; omega
  obtain ⟨s4, e4⟩ : ∃ x, x = s3.each 22 16 := ⟨_, rfl⟩
  have L4 : s4.L.length ≤ s.L.length + 31 := by rw [e4, Bs.each_len]; first | omega | (simp only [List.length_cons, List.length_nil]; omega)
  have N4 : names s4.M = names s.M ++ [nmSwapIn] := by rw [e4, names_each, N3]
  have K4 : s4.M.length ≤ s.M.length + 1 := by have := congrArg List.length N4; simp [names] at this; omega
  obtain ⟨s5, e5⟩ : ∃ x, x = s4.put [⟨32, 0, 0, 0, false, 0⟩] := ⟨_, rfl⟩
  have L5 : s5.L.length ≤ s.L.length + 32 := by rw [e5, Bs.put_len]; first | omega | (simp only [List.length_cons, List.length_nil]; omega)
  have N5 : names s5.M = names s.M ++ [nmSwapIn] := by rw [e5, names_put, N4]
  have K5 : s5.M.length ≤ s.M.length + 1 := by have := congrArg List.length N5; simp [names] at this; omega
  have hfin : s.resume nw = s5 := by rw [e5, e4, e3, e2, e1]; rfl
  rw [hfin]
  have HE1 := ahid e1
  have hz0 : s.L.length < 4294961000 ∧ s.M.length < 4294961000 := by omega
  have HF2x0 := ahid (show nmSwapIn ∉ names s1.M from by rw [N1]; exact hn_nmSwapIn)
  have HE2 := ahid e2
  have hz1 : s1.L.length < 4294961000 ∧ s1.M.length < 4294961000 := by omega
  have HE3 := ahid e3
  have hz2 : s2.L.length < 4294961000 ∧ s2.M.length < 4294961000 := by omega
  have HE4 := ahid e4
  have hz3 : s3.L.length < 4294961000 ∧ s3.M.length < 4294961000 := by omega
  have HE5 := ahid e5
  have hz4 : s4.L.length < 4294961000 ∧ s4.M.length < 4294961000 := by omega
  obtain ⟨w0, hw0⟩ : ∃ w0, w0 = w.alloc (.cells #[.pointer (some ⟨mb, 0, none⟩)] 142) := ⟨_, rfl⟩
  have hb0 : Below w.heap.size w w0 := by rw [hw0]; exact (Below.refl _ w).alloc (Nat.le_refl _) _
  have hbx0 : SwBox w0 w.heap.size mb S := ⟨by rw [hw0]; simp [go_sem], fun hs => by have := (h.bs.lst.lo _ hs).2; omega, by have := h.lt; omega⟩
  have HB0 := ahid hb0
  have HX0 := ahid hbx0
  have H0 := ahid (h.keepb hb0)
  have HLT := ahid (show mb < w0.heap.size from Nat.lt_of_lt_of_le h.lt hb0.size)
  clear h hfin hb0 hbx0 e1 L1 N1 K1 e2 L2 N2 K2 e3 L3 N3 K3 e4 L4 N4 K4 e5 L5 N5 K5
  go_enter Tryz.func92, Tryz.ntmps92
  go_wp2_with fail
  rw [← hw0]
  clear hw0
  have c0 := HX0.out.c
  have HP := ahid (fun (v : World) (hb : Below w0.heap.size w0 v) => sput_lit H0.out (l := [stI 4 0 128, ldI 1 5 72, stI 1 0 136, ldI 1 5 64, ⟨31, 0, 1, 0, true, 0⟩, ldI 14 5 68, ⟨26, 3, 0, 0, false, 0⟩, aluI 5 4 3 31]) lit_ok10 (by simp) (by simp; omega) hb)
  have HK := ahid (show ∀ w', Below w0.heap.size w0 w' → w'.cell? ⟨w.heap.size, 0, none⟩ = some (.pointer (some ⟨mb, 0, none⟩)) from fun w' hb => (hb.cell (p := ⟨w.heap.size, 0, none⟩) (World.block_lt_of_cell? _ _ c0)).trans c0)
  have hbW : Below w0.heap.size w0 w0.drew := (Below.refl _ _).drew
  have hle : w0.heap.size ≤ w0.heap.size := Nat.le_refl _
  have HN1 := ahid (fun v => sst_any (rd := 4) (rs := 0) (n := 128) v)
  have HN2 := ahid (fun v => sld_any (rd := 1) (rs := 5) (n := 72) v)
  have HN3 := ahid (fun v => sst_any (rd := 1) (rs := 0) (n := 136) v)
  have HN4 := ahid (fun v => sld_any (rd := 1) (rs := 5) (n := 64) v)
  have HN5 := ahid (fun v => sld_any (rd := 14) (rs := 5) (n := 68) v)
  have HN6 := ahid (fun v => salu_any (op := 5) (rd := 4) (rs := 3) (n := 31) (by omega) v)
  go_region_held3 (fun w' => w'.cell? ⟨w.heap.size, 0, none⟩ = some (.pointer (some ⟨mb, 0, none⟩))) (first | (with_reducible exact c0) | (exact HK.out _ hbW) | (exact HK.out _ (hbW.alloc hbW.size _)) | (exact HX0.out.goc hg) | (refine HK.out _ ?_; go_grown; done))
    (first
      | (go_at_call 87; (with_reducible refine (HN1.out _).mono ?_); rintro e v ⟨rfl, hb0⟩; have hbW := hbW.trans (hb0.mono hbW.size); clear hb0)
      | (go_at_call 85; (with_reducible refine (HN2.out _).mono ?_); rintro e v ⟨rfl, hb0⟩; have hbW := hbW.trans (hb0.mono hbW.size); clear hb0)
      | (go_at_call 87; (with_reducible refine (HN3.out _).mono ?_); rintro e v ⟨rfl, hb0⟩; have hbW := hbW.trans (hb0.mono hbW.size); clear hb0)
      | (go_at_call 85; (with_reducible refine (HN4.out _).mono ?_); rintro e v ⟨rfl, hb0⟩; have hbW := hbW.trans (hb0.mono hbW.size); clear hb0)
      | (go_at_call 85; (with_reducible refine (HN5.out _).mono ?_); rintro e v ⟨rfl, hb0⟩; have hbW := hbW.trans (hb0.mono hbW.size); clear hb0)
      | (go_at_call 86; (with_reducible refine (HN6.out _).mono ?_); rintro e v ⟨rfl, hb0⟩; have hbW := hbW.trans (hb0.mono hbW.size); clear hb0)
      | (go_at_call 84; refine (HP.out _ hbW).mono ?_; rintro e w1 ⟨rfl, hg⟩))
  clear c0 HP HK hbW hle HN1 HN2 HN3 HN4 HN5 HN6
  rw [← HE1.out] at hg
  have hg1 := hg
  obtain ⟨S1, h1, o1, r1⟩ := hg1
  have H1 := ahid h1
  have sz1 : w0.heap.size ≤ w1.heap.size := o1.size
  have HX1 := ahid (HX0.out.to o1 r1)
  clear h1
  clear hg
  have c0 := HX1.out.c
  go_wp2_with fail
  refine (snext_any H1.out (nm := nmSwapIn) (by decide) h32 HF2x0.out (by omega) (by omega)).mono ?_
  rintro e w2 ⟨rfl, hg⟩
  clear c0
  rw [← HE2.out] at hg
  have hg2 := hg
  obtain ⟨S2, h2, o2, r2⟩ := hg2
  have H2 := ahid h2
  have sz2 : w0.heap.size ≤ w2.heap.size := Nat.le_trans sz1 o2.size
  have HX2 := ahid (HX1.out.to o2 r2)
  clear h2
  clear hg
  go_wp2_with fail
  have c0 := HX2.out.c
  have HP := ahid (fun (v : World) (hb : Below w2.heap.size w2 v) => sput_lit H2.out (l := [aluI 0 1 0 1, bothI 8 1 1 4, ⟨29, 0, 1, 0, false, 0⟩]) lit_ok11 (by simp) (by simp; omega) hb)
  have HK := ahid (show ∀ w', Below w2.heap.size w2 w' → w'.cell? ⟨w.heap.size, 0, none⟩ = some (.pointer (some ⟨mb, 0, none⟩)) from fun w' hb => (hb.cell (p := ⟨w.heap.size, 0, none⟩) (World.block_lt_of_cell? _ _ c0)).trans c0)
  have hbW : Below w2.heap.size w2 w2.drew := (Below.refl _ _).drew
  have hle : w2.heap.size ≤ w2.heap.size := Nat.le_refl _
  have HN1 := ahid (fun v => salu_any (op := 0) (rd := 1) (rs := 0) (n := 1) (by omega) v)
  have HN2 := ahid (fun v => sboth_any (op := 8) (rd := 1) (a := 1) (b := 4) (by omega) v)
  go_region_held3 (fun w' => w'.cell? ⟨w.heap.size, 0, none⟩ = some (.pointer (some ⟨mb, 0, none⟩))) (first | (with_reducible exact c0) | (exact HK.out _ hbW) | (exact HK.out _ (hbW.alloc hbW.size _)) | (exact HX2.out.goc hg) | (refine HK.out _ ?_; go_grown; done))
    (first
      | (go_at_call 86; (with_reducible refine (HN1.out _).mono ?_); rintro e v ⟨rfl, hb0⟩; have hbW := hbW.trans (hb0.mono hbW.size); clear hb0)
      | (go_at_call 146; (with_reducible refine (HN2.out _).mono ?_); rintro e v ⟨rfl, hb0⟩; have hbW := hbW.trans (hb0.mono hbW.size); clear hb0)
      | (go_at_call 84; refine (HP.out _ hbW).mono ?_; rintro e w3 ⟨rfl, hg⟩))
  clear c0 HP HK hbW hle HN1 HN2
  rw [← HE3.out] at hg
  have hg3 := hg
  obtain ⟨S3, h3, o3, r3⟩ := hg3
  have H3 := ahid h3
  have sz3 : w0.heap.size ≤ w3.heap.size := Nat.le_trans sz2 o3.size
  have HX3 := ahid (HX2.out.to o3 r3)
  clear h3
  clear hg
  have c0 := HX3.out.c
  have HQ := ahid (sdo_resume H3.out (b := w.heap.size) (sresume1_any H3.out c0 HX3.out.n (by omega)))
  go_wp2_with fail
  refine HQ.out.mono ?_
  rintro e w4 ⟨rfl, hg⟩
  clear HQ c0
  rw [← HE4.out] at hg
  have hg4 := hg
  obtain ⟨S4, h4, o4, r4⟩ := hg4
  have H4 := ahid h4
  have sz4 : w0.heap.size ≤ w4.heap.size := Nat.le_trans sz3 o4.size
  have HX4 := ahid (HX3.out.to o4 r4)
  clear h4
  clear hg
  have c0 := HX4.out.c
  go_wp2_with fail
  refine (sput_lit H4.out (l := [⟨32, 0, 0, 0, false, 0⟩]) lit_ok12 (by simp) (by simp; omega) (Below.refl _ _)).mono ?_
  rintro e w5 ⟨rfl, hg⟩
  clear c0
  rw [← HE5.out] at hg
  have hg5 := hg
  obtain ⟨S5, h5, o5, r5⟩ := hg5
  have H5 := ahid h5
  have sz5 : w0.heap.size ≤ w5.heap.size := Nat.le_trans sz4 o5.size
  have HX5 := ahid (HX4.out.to o5 r5)
  clear h5
  have HG := ahid (SwGo.then HLT.out o1 r1 (SwGo.then (Nat.lt_of_lt_of_le HLT.out (sz1)) o2 r2 (SwGo.then (Nat.lt_of_lt_of_le HLT.out (sz2)) o3 r3 (SwGo.then (Nat.lt_of_lt_of_le HLT.out (sz3)) o4 r4 hg))))
  clear hg
  go_wp2_with fail
  go_end0
  exact ⟨rfl, HG.out.behind HB0.out⟩
end Go.Proofs.YtajholbcpmjhiaaGreatDoor
