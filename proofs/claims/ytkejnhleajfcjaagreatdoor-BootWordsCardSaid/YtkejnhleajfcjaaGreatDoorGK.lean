/- Several texts in one: SwapA, SwapB, SwapSpec. -/
import Derived.Test.YtkejnhleajfcjaaGreatDoorGJ
import Derived.Test.YtkejnhleajfcjaaGreatDoorGG
import Derived.Deep.RegionLaw
import Derived.StillTailTactics
/- Walks of the package swap: the maker's small methods. -/
namespace Go.Proofs.YtkejnhleajfcjaaGreatDoor
open Go.RowKit
set_option linter.unusedVariables false
set_option linter.unusedSimpArgs false
theorem salu_any {op rd rs n : Int} (h : 0 ≤ op ∧ op < 200) (w : World) :
    Calls Tryz.prog 136 #[.int .u8 op, .int .u8 rd, .int .u8 rs, .int .i32 n] w fun e w' => e = .returned (aluI op rd rs n).agg ∧ Below w.heap.size w w' := by
  have w8 : IntKind.u8.wrap (1 + op) = 1 + op := IntWalk.u8_in _ (by omega)
  go_enter Tryz.func136, Tryz.ntmps136
  go_wp2_with fail
  refine bodyPost_ret (v := (aluI op rd rs n).agg) (by simp [results, Tryz.results136, go_sem, aluI]; try rfl) rfl ?_
  exact ⟨rfl, (Below.refl _ w).alloc (Nat.le_refl _) _⟩
theorem sboth_any {op rd a b : Int} (h : 0 ≤ op ∧ op < 200) (w : World) :
    Calls Tryz.prog 235 #[.int .u8 op, .int .u8 rd, .int .u8 a, .int .u8 b] w fun e w' => e = .returned (bothI op rd a b).agg ∧ Below w.heap.size w w' := by
  have w8 : IntKind.u8.wrap (1 + op) = 1 + op := IntWalk.u8_in _ (by omega)
  go_enter Tryz.func235, Tryz.ntmps235
  go_wp2_with fail
  refine bodyPost_ret (v := (bothI op rd a b).agg) (by simp [results, Tryz.results235, go_sem, bothI]; try rfl) rfl ?_
  exact ⟨rfl, (Below.refl _ w).alloc (Nat.le_refl _) _⟩
theorem sld_any {rd rs n : Int} (w : World) :
    Calls Tryz.prog 135 #[.int .u8 rd, .int .u8 rs, .int .i32 n] w fun e w' => e = .returned (ldI rd rs n).agg ∧ Below w.heap.size w w' := by
  go_enter Tryz.func135, Tryz.ntmps135
  go_wp2_with fail
  refine bodyPost_ret (v := (ldI rd rs n).agg) (by simp [results, Tryz.results135, go_sem, ldI]; try rfl) rfl ?_
  exact ⟨rfl, (Below.refl _ w).alloc (Nat.le_refl _) _⟩
theorem sst_any {rd rs n : Int} (w : World) :
    Calls Tryz.prog 137 #[.int .u8 rd, .int .u8 rs, .int .i32 n] w fun e w' => e = .returned (stI rd rs n).agg ∧ Below w.heap.size w w' := by
  go_enter Tryz.func137, Tryz.ntmps137
  go_wp2_with fail
  refine bodyPost_ret (v := (stI rd rs n).agg) (by simp [results, Tryz.results137, go_sem, stI]; try rfl) rfl ?_
  exact ⟨rfl, (Below.refl _ w).alloc (Nat.le_refl _) _⟩
theorem scmp_any {rs n : Int} (w : World) :
    Calls Tryz.prog 236 #[.int .u8 rs, .int .i32 n] w fun e w' => e = .returned (cmpI rs n).agg ∧ Below w.heap.size w w' := by
  go_enter Tryz.func236, Tryz.ntmps236
  go_wp2_with fail
  refine bodyPost_ret (v := (cmpI rs n).agg) (by simp [results, Tryz.results236, go_sem, cmpI]; try rfl) rfl ?_
  exact ⟨rfl, (Below.refl _ w).alloc (Nat.le_refl _) _⟩
/-- A maker at block mb, its list under way. -/
structure SwAt (W w : World) (pa mb nw : Nat) (S : Nat → Prop) (s : Bs) : Prop where
  bs : BsAt W w pa S s
  row : w.heap[mb]? = some (.cells #[.pointer (some ⟨pa, 0, none⟩), .int .i64 (nw : Int), .int .i64 0] 225 (0, 0))
  no : ¬ S mb
  lo : W.heap.size ≤ mb
def SwGo (W w : World) (pa mb nw : Nat) (S : Nat → Prop) (s : Bs) (w' : World) : Prop := ∃ S', SwAt W w' pa mb nw S' s ∧ Only (fun k => S k ∨ k = mb) w w' ∧ ∀ k, S' k → S k ∨ w.heap.size ≤ k
section
variable {W w w' : World} {pa mb nw : Nat} {S : Nat → Prop} {s s' : Bs}
theorem SwAt.lt (h : SwAt W w pa mb nw S s) : mb < w.heap.size := (Array.getElem?_eq_some_iff.1 h.row).1
theorem SwAt.keepb (h : SwAt W w pa mb nw S s) (hb : Below w.heap.size w w') : SwAt W w' pa mb nw S s :=
  ⟨h.bs.keepb hb, (hb.block _ h.lt).trans h.row, h.no, h.lo⟩
theorem SwGo.behind {w1 : World} (hb : Below w.heap.size w w1) (hg : SwGo W w1 pa mb nw S s w') : SwGo W w pa mb nw S s w' := by
  obtain ⟨S', h', o', r'⟩ := hg
  exact ⟨S', h', (Only.of_below hb).trans o', fun k hk => (r' k hk).imp id (fun h => Nat.le_trans hb.size h)⟩
theorem SwGo.then {w1 w2 : World} {S1 : Nat → Prop} (hm : mb < w.heap.size) (o1 : Only (fun k => S k ∨ k = mb) w w1) (r1 : ∀ k, S1 k → S k ∨ w.heap.size ≤ k) (hg : SwGo W w1 pa mb nw S1 s' w2) : SwGo W w pa mb nw S s' w2 := by
  obtain ⟨S2, h2, o2, r2⟩ := hg
  refine ⟨S2, h2, o1.fresh o2 (fun i hi hk => ?_), fun k hk => ?_⟩
  · rcases hk with hk | hk
    · rcases r1 i hk with h | h
      · exact .inl h
      · omega
    · exact .inr hk
  · rcases r2 k hk with h | h
    · exact r1 k h
    · exact .inr (Nat.le_trans o1.size h)
/-- What the maker does to its list, and then stores that there is no error. -/
theorem SwAt.goes (h : SwAt W w pa mb nw S s) (hg : BsGo W w pa S s' w') : SwGo W w pa mb nw S s' (w'.setCell ⟨mb, 2, none⟩ (.int .i64 0)) ∧ w'.cell? ⟨mb, 2, none⟩ = some (.int .i64 0) ∧ w'.frozen? ⟨mb, 2, none⟩ = false := by
  obtain ⟨S', h', o', r'⟩ := hg
  have hr : w'.heap[mb]? = some (.cells #[.pointer (some ⟨pa, 0, none⟩), .int .i64 (nw : Int), .int .i64 0] 225 (0, 0)) := (o'.block mb h.lt h.no).trans h.row
  have hno : ¬ S' mb := fun hs => by
    rcases r' mb hs with h1 | h1
    · exact h.no h1
    · have := h.lt; omega
  have o2 : Only (fun k => k = mb) w' (w'.setCell ⟨mb, 2, none⟩ (.int .i64 0)) := (Only.refl (fun k => k = mb) w').setCell (p := ⟨mb, 2, none⟩) rfl _
  refine ⟨⟨S', ⟨h'.only o2 (fun k hk e => hno (e ▸ hk)) (fun k e => by rw [e]; exact h.lo), ?_, hno, h.lo⟩, ?_, r'⟩, row_cell hr rfl, row_frozen hr 2⟩
  · simp only [World.setCell, Array.getElem?_modify, hr]
    simp
  · exact (o'.mono (fun k _ hk => .inl hk)).trans (o2.mono (fun k _ hk => .inr hk))
end
end Go.Proofs.YtkejnhleajfcjaaGreatDoor
/- Walks of the package swap: the maker's put, mark and jump. (Printed by genswap.py.) -/
namespace Go.Proofs.YtkejnhleajfcjaaGreatDoor
open Go.RowKit
set_option linter.unusedVariables false
set_option linter.unusedSimpArgs false
set_option maxRecDepth 100000 in
theorem sput1_any {W w : World} {pa mb nw : Nat} {S : Nat → Prop} {s : Bs} (h : SwAt W w pa mb nw S s) {pv : Option Addr} {nv cv : Nat} {l : List Ix} (hl : InsIn w (.slice pv nv cv) l) (hok : allI l) (hL : s.L.length + l.length < 4294967296) {b : Nat} (c0 : w.cell? ⟨b, 0, none⟩ = some (.pointer (some ⟨mb, 0, none⟩))) (c1 : w.cell? ⟨b + 1, 0, none⟩ = some (.slice pv nv cv)) (n0 : ¬ S b) (n1 : ¬ S (b + 1)) :
    Calls Tryz.prog 230 #[.pointer (some ⟨b, 0, none⟩), .pointer (some ⟨b + 1, 0, none⟩)] w fun e w' => e = .returned (.int .i64 0) ∧ BsGo W w pa S (s.put l) w' := by
  have cm := row_cell h.row (j := 0) rfl
  have nm := h.no
  have HP := ahid (fun w' (hb : Below w.heap.size w w') => bs_put (h.bs.keepb hb) (hl.keepb hb) (fun x hx => (hok x hx).2) hL)
  have HK := ahid (show ∀ w', Below w.heap.size w w' → w'.cell? ⟨b, 0, none⟩ = some (.pointer (some ⟨mb, 0, none⟩)) ∧ w'.cell? ⟨mb, 0, none⟩ = some (.pointer (some ⟨pa, 0, none⟩)) ∧ w'.cell? ⟨b + 1, 0, none⟩ = some (.slice pv nv cv) from fun w' hb => ⟨(hb.cell (p := ⟨b, 0, none⟩) (World.block_lt_of_cell? _ _ c0)).trans c0, (hb.cell (p := ⟨mb, 0, none⟩) (World.block_lt_of_cell? _ _ cm)).trans cm, (hb.cell (p := ⟨b + 1, 0, none⟩) (World.block_lt_of_cell? _ _ c1)).trans c1⟩)
  have hbd : Below w.heap.size w w.drew := (Below.refl _ _).drew
  clear h
  go_enter Tryz.func230, Tryz.ntmps230
  go_wp2_with fail
  go_region_held3 (fun w' => w'.cell? ⟨b, 0, none⟩ = some (.pointer (some ⟨mb, 0, none⟩)) ∧ w'.cell? ⟨mb, 0, none⟩ = some (.pointer (some ⟨pa, 0, none⟩)) ∧ w'.cell? ⟨b + 1, 0, none⟩ = some (.slice pv nv cv)) (first | (with_reducible exact ⟨c0, cm, c1⟩) | (exact ⟨hg.cell c0 n0, hg.cell cm nm, hg.cell c1 n1⟩) | (refine HK.out _ ?_; go_grown; done))
    (first | (go_at_call 54; (with_reducible refine (HP.out _ hbd).mono ?_); rintro e w2 ⟨rfl, hg⟩; have hg := hg.behind hbd))
  have HG := ahid hg
  go_wp2_with fail
  go_ret
  exact ⟨rfl, HG.out⟩
theorem sdo_put {W w : World} {pa mb nw : Nat} {S : Nat → Prop} {s s' : Bs} (h : SwAt W w pa mb nw S s) {b : Nat} (hf : Calls Tryz.prog 230 #[.pointer (some ⟨b, 0, none⟩), .pointer (some ⟨b + 1, 0, none⟩)] w fun e w' => e = .returned (.int .i64 0) ∧ BsGo W w pa S s' w') :
    Calls Tryz.prog 228 #[.pointer (some ⟨mb, 0, none⟩), .func (.func 230) #[] #[.pointer (some ⟨b, 0, none⟩), .pointer (some ⟨b + 1, 0, none⟩)]] w fun e w' => e = .returned (.tuple #[]) ∧ SwGo W w pa mb nw S s' w' := by
  have c2 := row_cell h.row (j := 2) rfl
  have HF := ahid hf
  have H := ahid h
  clear hf h
  go_enter Tryz.func228, Tryz.ntmps228
  go_wp2_with fail
  refine HF.out.mono ?_
  rintro e w1 ⟨rfl, hg⟩
  obtain ⟨hs, d2, f2⟩ := H.out.goes hg
  have HS := ahid hs
  clear hg hs c2
  go_wp2_with fail
  go_end0
  exact ⟨rfl, HS.out⟩
set_option maxRecDepth 100000 in
theorem sput_any {W w : World} {pa mb nw : Nat} {S : Nat → Prop} {s : Bs} (h : SwAt W w pa mb nw S s) {pv : Option Addr} {nv cv : Nat} {l : List Ix} (hl : InsIn w (.slice pv nv cv) l) (hok : allI l) (hL : s.L.length + l.length < 4294967296) :
    Calls Tryz.prog 134 #[.pointer (some ⟨mb, 0, none⟩), .slice pv nv cv] w fun e w' => e = .returned (.tuple #[]) ∧ SwGo W w pa mb nw S (s.put l) w' := by
  obtain ⟨w1, hw1⟩ : ∃ w1, w1 = (w.alloc (.cells #[.pointer (some ⟨mb, 0, none⟩)] 223)).alloc (.cells #[.slice pv nv cv] 168) := ⟨_, rfl⟩
  have hb : Below w.heap.size w w1 := by
    rw [hw1]
    exact (((Below.refl _ w).alloc (Nat.le_refl _) _)).alloc (by simp only [World.size_alloc]; omega) _
  have c0 : w1.cell? ⟨w.heap.size, 0, none⟩ = some (.pointer (some ⟨mb, 0, none⟩)) := by rw [hw1]; simp [go_sem]
  have c1 : w1.cell? ⟨w.heap.size + 1, 0, none⟩ = some (.slice pv nv cv) := by rw [hw1]; simp [go_sem]
  have hlt := fun k (hk : S k) => (h.bs.lst.lo k hk).2
  have HF := ahid (sdo_put (h.keepb hb) (sput1_any (h.keepb hb) (hl.keepb hb) hok hL (b := w.heap.size) c0 c1 (fun hs => by have := hlt _ hs; omega) (fun hs => by have := hlt _ hs; omega)))
  have HB := ahid hb
  clear h hb c0 c1 hlt
  go_enter Tryz.func134, Tryz.ntmps134
  go_wp2_with fail
  rw [← hw1]
  clear hw1
  refine HF.out.mono ?_
  rintro e w2 ⟨rfl, hg⟩
  have HG := ahid (hg.behind HB.out)
  clear hg
  go_wp2_with fail
  go_end0
  exact ⟨rfl, HG.out⟩
set_option maxRecDepth 100000 in
theorem smark1_any {W w : World} {pa mb nw : Nat} {S : Nat → Prop} {s : Bs} (h : SwAt W w pa mb nw S s) {nm0 : List UInt8} (hs : nm0.length ≤ 100) (hn : look s.M nm0 = none) (hM : s.M.length < 4294967296) (hL : s.L.length < 4294967296) {b : Nat} (c0 : w.cell? ⟨b, 0, none⟩ = some (.pointer (some ⟨mb, 0, none⟩))) (c1 : w.cell? ⟨b + 1, 0, none⟩ = some (.string ⟨nm0.toArray⟩)) (n0 : ¬ S b) (n1 : ¬ S (b + 1)) :
    Calls Tryz.prog 229 #[.pointer (some ⟨b, 0, none⟩), .pointer (some ⟨b + 1, 0, none⟩)] w fun e w' => e = .returned (.int .i64 0) ∧ BsGo W w pa S (s.mark nm0) w' := by
  have cm := row_cell h.row (j := 0) rfl
  have nm := h.no
  have HP := ahid (fun w' (hb : Below w.heap.size w w') => bs_mark (h.bs.keepb hb) hs hn hM hL)
  have HK := ahid (show ∀ w', Below w.heap.size w w' → w'.cell? ⟨b, 0, none⟩ = some (.pointer (some ⟨mb, 0, none⟩)) ∧ w'.cell? ⟨mb, 0, none⟩ = some (.pointer (some ⟨pa, 0, none⟩)) ∧ w'.cell? ⟨b + 1, 0, none⟩ = some (.string ⟨nm0.toArray⟩) from fun w' hb => ⟨(hb.cell (p := ⟨b, 0, none⟩) (World.block_lt_of_cell? _ _ c0)).trans c0, (hb.cell (p := ⟨mb, 0, none⟩) (World.block_lt_of_cell? _ _ cm)).trans cm, (hb.cell (p := ⟨b + 1, 0, none⟩) (World.block_lt_of_cell? _ _ c1)).trans c1⟩)
  have hbd : Below w.heap.size w w.drew := (Below.refl _ _).drew
  clear h
  go_enter Tryz.func229, Tryz.ntmps229
  go_wp2_with fail
  go_region_held3 (fun w' => w'.cell? ⟨b, 0, none⟩ = some (.pointer (some ⟨mb, 0, none⟩)) ∧ w'.cell? ⟨mb, 0, none⟩ = some (.pointer (some ⟨pa, 0, none⟩)) ∧ w'.cell? ⟨b + 1, 0, none⟩ = some (.string ⟨nm0.toArray⟩)) (first | (with_reducible exact ⟨c0, cm, c1⟩) | (exact ⟨hg.cell c0 n0, hg.cell cm nm, hg.cell c1 n1⟩) | (refine HK.out _ ?_; go_grown; done))
    (first | (go_at_call 215; (with_reducible refine (HP.out _ hbd).mono ?_); rintro e w2 ⟨rfl, hg⟩; have hg := hg.behind hbd))
  have HG := ahid hg
  go_wp2_with fail
  go_ret
  exact ⟨rfl, HG.out⟩
theorem sdo_mark {W w : World} {pa mb nw : Nat} {S : Nat → Prop} {s s' : Bs} (h : SwAt W w pa mb nw S s) {b : Nat} (hf : Calls Tryz.prog 229 #[.pointer (some ⟨b, 0, none⟩), .pointer (some ⟨b + 1, 0, none⟩)] w fun e w' => e = .returned (.int .i64 0) ∧ BsGo W w pa S s' w') :
    Calls Tryz.prog 228 #[.pointer (some ⟨mb, 0, none⟩), .func (.func 229) #[] #[.pointer (some ⟨b, 0, none⟩), .pointer (some ⟨b + 1, 0, none⟩)]] w fun e w' => e = .returned (.tuple #[]) ∧ SwGo W w pa mb nw S s' w' := by
  have c2 := row_cell h.row (j := 2) rfl
  have HF := ahid hf
  have H := ahid h
  clear hf h
  go_enter Tryz.func228, Tryz.ntmps228
  go_wp2_with fail
  refine HF.out.mono ?_
  rintro e w1 ⟨rfl, hg⟩
  obtain ⟨hs, d2, f2⟩ := H.out.goes hg
  have HS := ahid hs
  clear hg hs c2
  go_wp2_with fail
  go_end0
  exact ⟨rfl, HS.out⟩
set_option maxRecDepth 100000 in
theorem smark_any {W w : World} {pa mb nw : Nat} {S : Nat → Prop} {s : Bs} (h : SwAt W w pa mb nw S s) {nm0 : List UInt8} (hs : nm0.length ≤ 100) (hn : look s.M nm0 = none) (hM : s.M.length < 4294967296) (hL : s.L.length < 4294967296) :
    Calls Tryz.prog 133 #[.pointer (some ⟨mb, 0, none⟩), .string ⟨nm0.toArray⟩] w fun e w' => e = .returned (.tuple #[]) ∧ SwGo W w pa mb nw S (s.mark nm0) w' := by
  obtain ⟨w1, hw1⟩ : ∃ w1, w1 = (w.alloc (.cells #[.pointer (some ⟨mb, 0, none⟩)] 223)).alloc (.cells #[.string ⟨nm0.toArray⟩] 9) := ⟨_, rfl⟩
  have hb : Below w.heap.size w w1 := by
    rw [hw1]
    exact (((Below.refl _ w).alloc (Nat.le_refl _) _)).alloc (by simp only [World.size_alloc]; omega) _
  have c0 : w1.cell? ⟨w.heap.size, 0, none⟩ = some (.pointer (some ⟨mb, 0, none⟩)) := by rw [hw1]; simp [go_sem]
  have c1 : w1.cell? ⟨w.heap.size + 1, 0, none⟩ = some (.string ⟨nm0.toArray⟩) := by rw [hw1]; simp [go_sem]
  have hlt := fun k (hk : S k) => (h.bs.lst.lo k hk).2
  have HF := ahid (sdo_mark (h.keepb hb) (smark1_any (h.keepb hb) hs hn hM hL (b := w.heap.size) c0 c1 (fun hs => by have := hlt _ hs; omega) (fun hs => by have := hlt _ hs; omega)))
  have HB := ahid hb
  clear h hb c0 c1 hlt
  go_enter Tryz.func133, Tryz.ntmps133
  go_wp2_with fail
  rw [← hw1]
  clear hw1
  refine HF.out.mono ?_
  rintro e w2 ⟨rfl, hg⟩
  have HG := ahid (hg.behind HB.out)
  clear hg
  go_wp2_with fail
  go_end0
  exact ⟨rfl, HG.out⟩
set_option maxRecDepth 100000 in
theorem sjump1_any {W w : World} {pa mb nw : Nat} {S : Nat → Prop} {s : Bs} (h : SwAt W w pa mb nw S s) {cd : Int} (hc0 : 0 ≤ cd) (hc1 : cd ≤ 6) {nm0 : List UInt8} (hs : nm0.length ≤ 100) (hL : s.L.length < 4294967296) {b : Nat} (c0 : w.cell? ⟨b, 0, none⟩ = some (.pointer (some ⟨mb, 0, none⟩))) (c1 : w.cell? ⟨b + 1, 0, none⟩ = some (.int .u8 cd)) (c2 : w.cell? ⟨b + 2, 0, none⟩ = some (.string ⟨nm0.toArray⟩)) (n0 : ¬ S b) (n1 : ¬ S (b + 1)) (n2 : ¬ S (b + 2)) :
    Calls Tryz.prog 231 #[.pointer (some ⟨b, 0, none⟩), .pointer (some ⟨b + 1, 0, none⟩), .pointer (some ⟨b + 2, 0, none⟩)] w fun e w' => e = .returned (.int .i64 0) ∧ BsGo W w pa S (s.jump cd nm0) w' := by
  have cm := row_cell h.row (j := 0) rfl
  have nm := h.no
  have HP := ahid (fun w' (hb : Below w.heap.size w w') => bs_jump (h.bs.keepb hb) hc0 hc1 hs hL)
  have HK := ahid (show ∀ w', Below w.heap.size w w' → w'.cell? ⟨b, 0, none⟩ = some (.pointer (some ⟨mb, 0, none⟩)) ∧ w'.cell? ⟨mb, 0, none⟩ = some (.pointer (some ⟨pa, 0, none⟩)) ∧ w'.cell? ⟨b + 1, 0, none⟩ = some (.int .u8 cd) ∧ w'.cell? ⟨b + 2, 0, none⟩ = some (.string ⟨nm0.toArray⟩) from fun w' hb => ⟨(hb.cell (p := ⟨b, 0, none⟩) (World.block_lt_of_cell? _ _ c0)).trans c0, (hb.cell (p := ⟨mb, 0, none⟩) (World.block_lt_of_cell? _ _ cm)).trans cm, (hb.cell (p := ⟨b + 1, 0, none⟩) (World.block_lt_of_cell? _ _ c1)).trans c1, (hb.cell (p := ⟨b + 2, 0, none⟩) (World.block_lt_of_cell? _ _ c2)).trans c2⟩)
  have hbd : Below w.heap.size w w.drew := (Below.refl _ _).drew
  clear h
  go_enter Tryz.func231, Tryz.ntmps231
  go_wp2_with fail
  go_region_held3 (fun w' => w'.cell? ⟨b, 0, none⟩ = some (.pointer (some ⟨mb, 0, none⟩)) ∧ w'.cell? ⟨mb, 0, none⟩ = some (.pointer (some ⟨pa, 0, none⟩)) ∧ w'.cell? ⟨b + 1, 0, none⟩ = some (.int .u8 cd) ∧ w'.cell? ⟨b + 2, 0, none⟩ = some (.string ⟨nm0.toArray⟩)) (first | (with_reducible exact ⟨c0, cm, c1, c2⟩) | (exact ⟨hg.cell c0 n0, hg.cell cm nm, hg.cell c1 n1, hg.cell c2 n2⟩) | (refine HK.out _ ?_; go_grown; done))
    (first | (go_at_call 214; (with_reducible refine (HP.out _ hbd).mono ?_); rintro e w2 ⟨rfl, hg⟩; have hg := hg.behind hbd))
  have HG := ahid hg
  go_wp2_with fail
  go_ret
  exact ⟨rfl, HG.out⟩
theorem sdo_jump {W w : World} {pa mb nw : Nat} {S : Nat → Prop} {s s' : Bs} (h : SwAt W w pa mb nw S s) {b : Nat} (hf : Calls Tryz.prog 231 #[.pointer (some ⟨b, 0, none⟩), .pointer (some ⟨b + 1, 0, none⟩), .pointer (some ⟨b + 2, 0, none⟩)] w fun e w' => e = .returned (.int .i64 0) ∧ BsGo W w pa S s' w') :
    Calls Tryz.prog 228 #[.pointer (some ⟨mb, 0, none⟩), .func (.func 231) #[] #[.pointer (some ⟨b, 0, none⟩), .pointer (some ⟨b + 1, 0, none⟩), .pointer (some ⟨b + 2, 0, none⟩)]] w fun e w' => e = .returned (.tuple #[]) ∧ SwGo W w pa mb nw S s' w' := by
  have c2 := row_cell h.row (j := 2) rfl
  have HF := ahid hf
  have H := ahid h
  clear hf h
  go_enter Tryz.func228, Tryz.ntmps228
  go_wp2_with fail
  refine HF.out.mono ?_
  rintro e w1 ⟨rfl, hg⟩
  obtain ⟨hs, d2, f2⟩ := H.out.goes hg
  have HS := ahid hs
  clear hg hs c2
  go_wp2_with fail
  go_end0
  exact ⟨rfl, HS.out⟩
set_option maxRecDepth 100000 in
theorem sjump_any {W w : World} {pa mb nw : Nat} {S : Nat → Prop} {s : Bs} (h : SwAt W w pa mb nw S s) {cd : Int} (hc0 : 0 ≤ cd) (hc1 : cd ≤ 6) {nm0 : List UInt8} (hs : nm0.length ≤ 100) (hL : s.L.length < 4294967296) :
    Calls Tryz.prog 138 #[.pointer (some ⟨mb, 0, none⟩), .int .u8 cd, .string ⟨nm0.toArray⟩] w fun e w' => e = .returned (.tuple #[]) ∧ SwGo W w pa mb nw S (s.jump cd nm0) w' := by
  obtain ⟨w1, hw1⟩ : ∃ w1, w1 = ((w.alloc (.cells #[.pointer (some ⟨mb, 0, none⟩)] 223)).alloc (.cells #[.int .u8 cd] 5)).alloc (.cells #[.string ⟨nm0.toArray⟩] 9) := ⟨_, rfl⟩
  have hb : Below w.heap.size w w1 := by
    rw [hw1]
    exact ((((Below.refl _ w).alloc (Nat.le_refl _) _)).alloc (by simp only [World.size_alloc]; omega) _).alloc (by simp only [World.size_alloc]; omega) _
  have c0 : w1.cell? ⟨w.heap.size, 0, none⟩ = some (.pointer (some ⟨mb, 0, none⟩)) := by rw [hw1]; simp [go_sem]
  have c1 : w1.cell? ⟨w.heap.size + 1, 0, none⟩ = some (.int .u8 cd) := by rw [hw1]; simp [go_sem]
  have c2 : w1.cell? ⟨w.heap.size + 2, 0, none⟩ = some (.string ⟨nm0.toArray⟩) := by rw [hw1]; simp [go_sem]
  have hlt := fun k (hk : S k) => (h.bs.lst.lo k hk).2
  have HF := ahid (sdo_jump (h.keepb hb) (sjump1_any (h.keepb hb) hc0 hc1 hs hL (b := w.heap.size) c0 c1 c2 (fun hs => by have := hlt _ hs; omega) (fun hs => by have := hlt _ hs; omega) (fun hs => by have := hlt _ hs; omega)))
  have HB := ahid hb
  clear h hb c0 c1 c2 hlt
  go_enter Tryz.func138, Tryz.ntmps138
  go_wp2_with fail
  rw [← hw1]
  clear hw1
  refine HF.out.mono ?_
  rintro e w2 ⟨rfl, hg⟩
  have HG := ahid (hg.behind HB.out)
  clear hg
  go_wp2_with fail
  go_end0
  exact ⟨rfl, HG.out⟩
end Go.Proofs.YtkejnhleajfcjaaGreatDoor
/- What swap's handlers are: plain lists of instructions. No program in sight. (Printed by genswap2.py.) -/
namespace Go.Proofs.YtkejnhleajfcjaaGreatDoor
open Go.RowKit
set_option linter.unusedVariables false
set_option linter.unusedSimpArgs false
def nmEnd : List UInt8 := [101, 110, 100]
def nmYield : List UInt8 := [121, 105, 101, 108, 100]
def nmYieldEach : List UInt8 := [121, 105, 101, 108, 100, 46, 101, 97, 99, 104]
def nmYieldIn : List UInt8 := [121, 105, 101, 108, 100, 46, 105, 110]
def nmSwap : List UInt8 := [115, 119, 97, 112]
def nmSwapCount : List UInt8 := [115, 119, 97, 112, 46, 99, 111, 117, 110, 116]
def nmSwapEach : List UInt8 := [115, 119, 97, 112, 46, 101, 97, 99, 104]
def nmSwapNot : List UInt8 := [115, 119, 97, 112, 46, 110, 111, 116]
def nmSwapIt : List UInt8 := [115, 119, 97, 112, 46, 105, 116]
def nmSwapIn : List UInt8 := [115, 119, 97, 112, 46, 105, 110]
def Bs.window (s : Bs) (r : Int) : Bs := s.put [bothI 6 2 5 r, ⟨27, 0, 2, 0, false, 0⟩]
def Bs.next (s : Bs) (nw : Nat) (nm : List UInt8) : Bs := (((s.put [aluI 0 4 4 1, cmpI 4 nw]).jump 2 nm).put [aluI 0 4 0 0]).mark nm
def Bs.flush (s : Bs) (nw : Nat) : Bs := (((((((s.put [⟨28, 1, 0, 0, false, 0⟩, ⟨26, 3, 0, 0, false, 0⟩, aluI 5 4 3 31, aluI 0 6 4 0, aluI 5 5 3 (-32)]).mark nmYieldEach).window 4).each 23 16).next nw nmYieldIn).put [bothI 9 2 1 4, aluI 5 2 2 1, cmpI 2 1]).jump 2 nmYieldEach).window 6
def Bs.keep (s : Bs) : Bs := s.put [ldI 1 0 128, aluI 8 1 1 4, ⟨30, 2, 0, 0, true, 0⟩, stI 2 1 64, stI 14 1 68]
def Bs.choose (s : Bs) : Bs := ((((((((((((((s.put [⟨34, 1, 0, 0, false, 0⟩, ldI 3 0 132, aluI 0 2 0 0, aluI 0 4 0 0]).mark nmSwapCount).put [aluI 8 5 4 4, ldI 5 5 76, bothI 0 2 2 5, aluI 0 4 4 1, ⟨16, 0, 4, 3, false, 0⟩]).jump 2 nmSwapCount).put [aluI 9 5 1 16, bothI 4 5 5 2, aluI 8 5 5 16, aluI 8 1 1 16, aluI 9 1 1 16, bothI 0 1 1 5, bothI 4 1 1 2, aluI 0 4 0 0]).mark nmSwapEach).put [aluI 8 5 4 4, ldI 6 5 76, cmpI 6 1]).jump 2 nmSwapNot).put [cmpI 1 0]).jump 1 nmSwapIt).put [aluI 1 1 1 1]).mark nmSwapNot).put [aluI 0 4 4 1]).jump 0 nmSwapEach).mark nmSwapIt
def Bs.resume (s : Bs) (nw : Nat) : Bs := ((((s.put [stI 4 0 128, ldI 1 5 72, stI 1 0 136, ldI 1 5 64, ⟨31, 0, 1, 0, true, 0⟩, ldI 14 5 68, ⟨26, 3, 0, 0, false, 0⟩, aluI 5 4 3 31]).next nw nmSwapIn).put [aluI 0 1 0 1, bothI 8 1 1 4, ⟨29, 0, 1, 0, false, 0⟩]).each 22 16).put [⟨32, 0, 0, 0, false, 0⟩]
def Bs.swap (s : Bs) (nw : Nat) : Bs := ((((((((s.mark nmEnd).put [ldI 1 0 128, aluI 8 1 1 4, stI 0 1 76]).jump 0 nmSwap).mark nmYield).flush nw).keep).mark nmSwap).choose).resume nw
/-- The marks' names. -/
def names (M : List (List UInt8 × Int)) : List (List UInt8) := M.map (·.1)
theorem look_names {M : List (List UInt8 × Int)} {nm : List UInt8} (h : nm ∉ names M) : look M nm = none := by
  unfold look
  rw [List.find?_eq_none.2 (fun e he => by
    intro hh
    exact h (List.mem_map.2 ⟨e, he, eq_of_beq hh⟩))]
  rfl
theorem names_look {M : List (List UInt8 × Int)} {nm : List UInt8} (h : look M nm = none) : nm ∉ names M := fun hm => by
  obtain ⟨e, he, rfl⟩ := List.mem_map.1 hm
  unfold look at h
  rw [Option.map_eq_none_iff, List.find?_eq_none] at h
  exact h e he (by simp)
theorem names_mark (s : Bs) (nm : List UInt8) : names (s.mark nm).M = names s.M ++ [nm] := by
  show List.map Prod.fst (s.M ++ [(nm, (s.L.length : Int))]) = _
  rw [List.map_append]; rfl
theorem names_put (s : Bs) (l : List Ix) : names (s.put l).M = names s.M := rfl
theorem names_jump (s : Bs) (c : Int) (nm : List UInt8) : names (s.jump c nm).M = names s.M := rfl
theorem names_each (s : Bs) (op : Int) (n : Nat) : names (s.each op n).M = names s.M := by rw [Bs.each_M]
theorem len_mark (s : Bs) (nm : List UInt8) : (s.mark nm).L.length = s.L.length := rfl
theorem len_jump (s : Bs) (c : Int) (nm : List UInt8) : (s.jump c nm).L.length = s.L.length + 1 := by show (_ ++ [_]).length = _; simp
theorem names_window (s : Bs) (r : Int) : names (s.window r).M = names s.M := rfl
theorem len_window (s : Bs) (r : Int) : (s.window r).L.length = s.L.length + 2 := Bs.put_len _ _
theorem names_next (s : Bs) (nw : Nat) (nm : List UInt8) : names (s.next nw nm).M = names s.M ++ [nm] := names_mark _ _
theorem len_next (s : Bs) (nw : Nat) (nm : List UInt8) : (s.next nw nm).L.length = s.L.length + 4 := by
  unfold Bs.next
  rw [len_mark, Bs.put_len, len_jump, Bs.put_len]
  rfl
theorem names_flush (s : Bs) (nw : Nat) : names (s.flush nw).M = names s.M ++ [nmYieldEach, nmYieldIn] := by
  unfold Bs.flush
  simp [names_mark, names_put, names_jump, names_each, names_window, names_next]
theorem len_flush (s : Bs) (nw : Nat) : (s.flush nw).L.length = s.L.length + 33 := by
  unfold Bs.flush
  simp [len_mark, Bs.put_len, len_jump, Bs.each_len, len_window, len_next]
theorem names_keep (s : Bs) : names (s.keep).M = names s.M := by
  unfold Bs.keep
  simp [names_mark, names_put, names_jump, names_each, names_window, names_next]
theorem len_keep (s : Bs) : (s.keep).L.length = s.L.length + 5 := by
  unfold Bs.keep
  simp [len_mark, Bs.put_len, len_jump, Bs.each_len, len_window, len_next]
theorem names_choose (s : Bs) : names (s.choose).M = names s.M ++ [nmSwapCount, nmSwapEach, nmSwapNot, nmSwapIt] := by
  unfold Bs.choose
  simp [names_mark, names_put, names_jump, names_each, names_window, names_next]
theorem len_choose (s : Bs) : (s.choose).L.length = s.L.length + 27 := by
  unfold Bs.choose
  simp [len_mark, Bs.put_len, len_jump, Bs.each_len, len_window, len_next]
theorem names_resume (s : Bs) (nw : Nat) : names (s.resume nw).M = names s.M ++ [nmSwapIn] := by
  unfold Bs.resume
  simp [names_mark, names_put, names_jump, names_each, names_window, names_next]
theorem len_resume (s : Bs) (nw : Nat) : (s.resume nw).L.length = s.L.length + 32 := by
  unfold Bs.resume
  simp [len_mark, Bs.put_len, len_jump, Bs.each_len, len_window, len_next]
theorem names_swap (s : Bs) (nw : Nat) : names (s.swap nw).M = names s.M ++ [nmEnd, nmYield, nmYieldEach, nmYieldIn, nmSwap, nmSwapCount, nmSwapEach, nmSwapNot, nmSwapIt, nmSwapIn] := by
  unfold Bs.swap
  simp [names_mark, names_put, names_jump, names_each, names_window, names_next, names_flush, names_keep, names_choose, names_resume]
theorem len_swap (s : Bs) (nw : Nat) : (s.swap nw).L.length = s.L.length + 101 := by
  unfold Bs.swap
  simp [len_mark, Bs.put_len, len_jump, Bs.each_len, len_window, len_next, len_flush, len_keep, len_choose, len_resume]
theorem next_ok : ∀ nw : Nat, nw < 33 → allI [aluI 0 4 4 1, cmpI 4 nw] := by decide
theorem lit_ok0 : allI [⟨28, 1, 0, 0, false, 0⟩, ⟨26, 3, 0, 0, false, 0⟩, aluI 5 4 3 31, aluI 0 6 4 0, aluI 5 5 3 (-32)] := by decide
theorem lit_ok1 : allI [bothI 9 2 1 4, aluI 5 2 2 1, cmpI 2 1] := by decide
theorem lit_ok2 : allI [ldI 1 0 128, aluI 8 1 1 4, ⟨30, 2, 0, 0, true, 0⟩, stI 2 1 64, stI 14 1 68] := by decide
theorem lit_ok3 : allI [⟨34, 1, 0, 0, false, 0⟩, ldI 3 0 132, aluI 0 2 0 0, aluI 0 4 0 0] := by decide
theorem lit_ok4 : allI [aluI 8 5 4 4, ldI 5 5 76, bothI 0 2 2 5, aluI 0 4 4 1, ⟨16, 0, 4, 3, false, 0⟩] := by decide
theorem lit_ok5 : allI [aluI 9 5 1 16, bothI 4 5 5 2, aluI 8 5 5 16, aluI 8 1 1 16, aluI 9 1 1 16, bothI 0 1 1 5, bothI 4 1 1 2, aluI 0 4 0 0] := by decide
theorem lit_ok6 : allI [aluI 8 5 4 4, ldI 6 5 76, cmpI 6 1] := by decide
theorem lit_ok7 : allI [cmpI 1 0] := by decide
theorem lit_ok8 : allI [aluI 1 1 1 1] := by decide
theorem lit_ok9 : allI [aluI 0 4 4 1] := by decide
theorem lit_ok10 : allI [stI 4 0 128, ldI 1 5 72, stI 1 0 136, ldI 1 5 64, ⟨31, 0, 1, 0, true, 0⟩, ldI 14 5 68, ⟨26, 3, 0, 0, false, 0⟩, aluI 5 4 3 31] := by decide
theorem lit_ok11 : allI [aluI 0 1 0 1, bothI 8 1 1 4, ⟨29, 0, 1, 0, false, 0⟩] := by decide
theorem lit_ok12 : allI [⟨32, 0, 0, 0, false, 0⟩] := by decide
theorem lit_ok13 : allI [ldI 1 0 128, aluI 8 1 1 4, stI 0 1 76] := by decide
theorem lit_okA : allI [aluI 0 4 0 0] := by decide
theorem lit_okW : ∀ r : Int, (r = 4 ∨ r = 6) → allI [bothI 6 2 5 r, ⟨27, 0, 2, 0, false, 0⟩] := by
  intro r h
  rcases h with rfl | rfl <;> decide
end Go.Proofs.YtkejnhleajfcjaaGreatDoor
