/- Several texts in one: SwapMadeLaw, SwapA, SwapB. -/
import Derived.Test.YtajholbcpmjhiaaGreatDoorH32
set_option linter.unusedVariables false
set_option linter.unusedSimpArgs false
/- Plain law: what of a swap machine's memory counts. No program in sight. -/
namespace Go.Proofs.YtajholbcpmjhiaaGreatDoor
open Go.RowKit
def trapI (en : Bool) : Ix := ⟨33, 0, 0, 0, true, if en then 4 else 3⟩
theorem trapI_bd (en : Bool) : (trapI en).bd := by cases en <;> decide
theorem trapI_may (en : Bool) : mayP (trapI en) := by cases en <;> decide
def jumpS (n : Int) : Ix := ⟨17, 0, 0, 0, true, n⟩
theorem jumpS_may3 : (jumpS 120).bd ∧ mayP (jumpS 120) := by decide
theorem jumpS_may4 : (jumpS 112).bd ∧ mayP (jumpS 112) := by decide
def frmX (n : Int) : Int := 2048 + n % 1520 * 4
structure SMem (d : List Int) (nw : Nat) (en : Bool) (cur T : Int) (k : Nat) (st al : Nat → Int) : Prop where
  len : d.length = 8192
  hs : Codes d 768 (swapI nw)
  v3 : CodeAt d 304 ⟨17, 0, 0, 0, true, 120⟩
  v4 : CodeAt d 320 ⟨17, 0, 0, 0, true, 112⟩
  at' : CodeAt d 1536 (trapI en)
  curL : loadS d 128 4 = cur
  th : loadS d 132 4 = T
  tcb : ∀ t, t < k → loadS d (16 * t + 64) 4 = 1700 + 4 * (t : Int) ∧ loadS d (16 * t + 68) 4 = frmX (st t) ∧ loadS d (16 * t + 72) 4 = 5000 + (t : Int) ∧ loadS d (16 * t + 76) 4 = al t
theorem SMem.start {nw : Nat} (hf : SwapIs nw) {d : List Int} (hd : d.length = 8192) (en : Bool) {cur T : Int} (hc : 0 ≤ cur ∧ cur < 4294967296) (hT : 0 ≤ T ∧ T < 4294967296) (st al : Nat → Int) :
    SMem (storeV (storeV (storeV (storeV (storeV (putV d 768 ((swapI nw).map encS)) 304 4 (encS (jumpS 120))) 320 4 (encS (jumpS 112))) 1536 4 (encS (trapI en))) 128 4 cur) 132 4 T) nw en cur T 0 st al := by
  have hn := swapI_len nw
  have hl1 : (putV d 768 ((swapI nw).map encS)).length = 8192 := by rw [putV_len]; exact hd
  have hc1 := codes_put (d := d) (a := 768) (by decide) hf.ok (by omega)
  rw [show ((768 : Nat) : Int) = 768 from rfl] at hc1
  generalize putV d 768 ((swapI nw).map encS) = d2 at *
  rw [show (304 : Int) = ((304 : Nat) : Int) from rfl, storeV_word d2 304 _ (by decide) (by omega), encS_word jumpS_may3.2, show (320 : Int) = ((320 : Nat) : Int) from rfl, storeV_word _ 320 _ (by decide) (by rw [storeS_len]; omega), encS_word jumpS_may4.2, show (1536 : Int) = ((1536 : Nat) : Int) from rfl, storeV_word _ 1536 _ (by decide) (by rw [storeS_len, storeS_len]; omega), encS_word (trapI_may en), show (128 : Int) = ((128 : Nat) : Int) from rfl, storeV_word _ 128 _ (by decide) (by rw [storeS_len, storeS_len, storeS_len]; omega), show (132 : Int) = ((132 : Nat) : Int) from rfl, storeV_word _ 132 _ (by decide) (by rw [storeS_len, storeS_len, storeS_len, storeS_len]; omega)]
  refine ⟨by rw [storeS_len, storeS_len, storeS_len, storeS_len, storeS_len]; exact hl1, ?_, ?_, ?_, ?_, ?_, ?_, fun t h => by omega⟩
  · exact ((((hc1.store 304 _ (.inl (by omega))).store 320 _ (.inl (by omega))).store 1536 _ (.inr (by omega))).store 128 _ (.inl (by omega))).store 132 _ (.inl (by omega))
  · exact ((((CodeAt.new (by decide) (by omega) jumpS_may3.1 jumpS_may3.2).store _ (.inl (by decide))).store _ (.inl (by decide))).store _ (.inr (by decide))).store _ (.inr (by decide))
  · exact (((CodeAt.new (by decide) (by rw [storeS_len]; omega) jumpS_may4.1 jumpS_may4.2).store _ (.inl (by decide))).store _ (.inr (by decide))).store _ (.inr (by decide))
  · exact ((CodeAt.new (by decide) (by rw [storeS_len, storeS_len]; omega) (trapI_bd en) (trapI_may en)).store _ (.inr (by decide))).store _ (.inr (by decide))
  · rw [load_far _ (by decide), load_own hc (by rw [storeS_len, storeS_len, storeS_len]; omega)]
  · rw [load_own hT (by rw [storeS_len, storeS_len, storeS_len, storeS_len]; omega)]
theorem put4 (d : List Int) (a : Nat) (w0 w1 w2 w3 : Int) : putS d a [w0, w1, w2, w3] = storeS (storeS (storeS (storeS d a 4 w0) (a + 4) 4 w1) (a + 8) 4 w2) (a + 12) 4 w3 := rfl
theorem SMem.put {d : List Int} {nw : Nat} {en : Bool} {cur T : Int} {k : Nat} {st al : Nat → Int} (h : SMem d nw en cur T k st al) (hk : k < 4) (hs : 0 ≤ st k ∧ st k < 65536) (ha : 0 ≤ al k ∧ al k ≤ 1) :
    SMem (putV d ((64 + 16 * k : Nat) : Int) [1700 + 4 * (k : Int), frmX (st k), 5000 + (k : Int), al k]) nw en cur T (k + 1) st al := by
  have hl := h.len
  have hn := swapI_len nw
  have hfb : 0 ≤ frmX (st k) ∧ frmX (st k) < 4294967296 := by unfold frmX; omega
  have hsp : spanE d.length ((64 + 16 * k : Nat) : Int) (([1700 + 4 * (k : Int), frmX (st k), 5000 + (k : Int), al k].length : Nat) : Int) 4 = 0 := spanE_row _ _ _ (by omega) (by simp only [List.length_cons, List.length_nil]; omega)
  unfold putV
  rw [if_pos hsp, Int.toNat_natCast, put4]
  have hcd : ∀ {a : Nat} {x : Ix}, CodeAt d a x → 304 ≤ a → CodeAt (storeS (storeS (storeS (storeS d (64 + 16 * k) 4 (1700 + 4 * (k : Int))) (64 + 16 * k + 4) 4 (frmX (st k))) (64 + 16 * k + 8) 4 (5000 + (k : Int))) (64 + 16 * k + 12) 4 (al k)) a x := fun hx ha => (((hx.store _ (by omega)).store _ (by omega)).store _ (by omega)).store _ (by omega)
  refine ⟨by rw [storeS_len, storeS_len, storeS_len, storeS_len]; exact hl, ?_, hcd h.v3 (by decide), hcd h.v4 (by decide), hcd h.at' (by decide), ?_, ?_, fun t ht => ?_⟩
  · exact (((h.hs.store _ _ (.inl (by omega))).store _ _ (.inl (by omega))).store _ _ (.inl (by omega))).store _ _ (.inl (by omega))
  · rw [load_far _ (by omega), load_far _ (by omega), load_far _ (by omega), load_far _ (by omega)]; exact h.curL
  · rw [load_far _ (by omega), load_far _ (by omega), load_far _ (by omega), load_far _ (by omega)]; exact h.th
  · by_cases e : t = k
    · subst e
      rw [show 16 * t + 64 = 64 + 16 * t by omega, show 16 * t + 68 = 64 + 16 * t + 4 by omega, show 16 * t + 72 = 64 + 16 * t + 8 by omega, show 16 * t + 76 = 64 + 16 * t + 12 by omega]
      refine ⟨?_, ?_, ?_, ?_⟩
      · rw [load_far _ (by omega), load_far _ (by omega), load_far _ (by omega), load_own (by omega) (by omega)]
      · rw [load_far _ (by omega), load_far _ (by omega), load_own hfb (by rw [storeS_len]; omega)]
      · rw [load_far _ (by omega), load_own (by omega) (by rw [storeS_len, storeS_len]; omega)]
      · rw [load_own (by omega) (by rw [storeS_len, storeS_len, storeS_len]; omega)]
    · obtain ⟨h1, h2, h3, h4⟩ := h.tcb t (by omega)
      refine ⟨?_, ?_, ?_, ?_⟩
      · rw [load_far _ (by omega), load_far _ (by omega), load_far _ (by omega), load_far _ (by omega)]; exact h1
      · rw [load_far _ (by omega), load_far _ (by omega), load_far _ (by omega), load_far _ (by omega)]; exact h2
      · rw [load_far _ (by omega), load_far _ (by omega), load_far _ (by omega), load_far _ (by omega)]; exact h3
      · rw [load_far _ (by omega), load_far _ (by omega), load_far _ (by omega), load_far _ (by omega)]; exact h4
end Go.Proofs.YtajholbcpmjhiaaGreatDoor
/- Walks of the package swap: the maker's small methods. -/
namespace Go.Proofs.YtajholbcpmjhiaaGreatDoor
open Go.RowKit
theorem salu_any {op rd rs n : Int} (h : 0 ≤ op ∧ op < 200) (w : World) :
    Calls Tryz.prog 86 #[.int .u8 op, .int .u8 rd, .int .u8 rs, .int .i32 n] w fun e w' => e = .returned (aluI op rd rs n).agg ∧ Below w.heap.size w w' := by
  have w8 : IntKind.u8.wrap (1 + op) = 1 + op := IntWalk.u8_in _ (by omega)
  go_enter Tryz.func86, Tryz.ntmps86
  go_wp2_with fail
  refine bodyPost_ret (v := (aluI op rd rs n).agg) (by simp [results, Tryz.results86, go_sem, aluI]; try rfl) rfl ?_
  exact ⟨rfl, (Below.refl _ w).alloc (Nat.le_refl _) _⟩
theorem sboth_any {op rd a b : Int} (h : 0 ≤ op ∧ op < 200) (w : World) :
    Calls Tryz.prog 146 #[.int .u8 op, .int .u8 rd, .int .u8 a, .int .u8 b] w fun e w' => e = .returned (bothI op rd a b).agg ∧ Below w.heap.size w w' := by
  have w8 : IntKind.u8.wrap (1 + op) = 1 + op := IntWalk.u8_in _ (by omega)
  go_enter Tryz.func146, Tryz.ntmps146
  go_wp2_with fail
  refine bodyPost_ret (v := (bothI op rd a b).agg) (by simp [results, Tryz.results146, go_sem, bothI]; try rfl) rfl ?_
  exact ⟨rfl, (Below.refl _ w).alloc (Nat.le_refl _) _⟩
theorem sld_any {rd rs n : Int} (w : World) :
    Calls Tryz.prog 85 #[.int .u8 rd, .int .u8 rs, .int .i32 n] w fun e w' => e = .returned (ldI rd rs n).agg ∧ Below w.heap.size w w' := by
  go_enter Tryz.func85, Tryz.ntmps85
  go_wp2_with fail
  refine bodyPost_ret (v := (ldI rd rs n).agg) (by simp [results, Tryz.results85, go_sem, ldI]; try rfl) rfl ?_
  exact ⟨rfl, (Below.refl _ w).alloc (Nat.le_refl _) _⟩
theorem sst_any {rd rs n : Int} (w : World) :
    Calls Tryz.prog 87 #[.int .u8 rd, .int .u8 rs, .int .i32 n] w fun e w' => e = .returned (stI rd rs n).agg ∧ Below w.heap.size w w' := by
  go_enter Tryz.func87, Tryz.ntmps87
  go_wp2_with fail
  refine bodyPost_ret (v := (stI rd rs n).agg) (by simp [results, Tryz.results87, go_sem, stI]; try rfl) rfl ?_
  exact ⟨rfl, (Below.refl _ w).alloc (Nat.le_refl _) _⟩
theorem scmp_any {rs n : Int} (w : World) :
    Calls Tryz.prog 147 #[.int .u8 rs, .int .i32 n] w fun e w' => e = .returned (cmpI rs n).agg ∧ Below w.heap.size w w' := by
  go_enter Tryz.func147, Tryz.ntmps147
  go_wp2_with fail
  refine bodyPost_ret (v := (cmpI rs n).agg) (by simp [results, Tryz.results147, go_sem, cmpI]; try rfl) rfl ?_
  exact ⟨rfl, (Below.refl _ w).alloc (Nat.le_refl _) _⟩
structure SwAt (W w : World) (pa mb nw : Nat) (S : Nat → Prop) (s : Bs) : Prop where
  bs : BsAt W w pa S s
  row : w.heap[mb]? = some (.cells #[.pointer (some ⟨pa, 0, none⟩), .int .i64 (nw : Int), .int .i64 0] 144 (0, 0))
  no : ¬ S mb
  lo : W.heap.size ≤ mb
def SwGo (W w : World) (pa mb nw : Nat) (S : Nat → Prop) (s : Bs) (w' : World) : Prop := ∃ S', SwAt W w' pa mb nw S' s ∧ Only (fun k => S k ∨ k = mb) w w' ∧ ∀ k, S' k → S k ∨ w.heap.size ≤ k
section
variable {W w w' : World} {pa mb nw : Nat} {S : Nat → Prop} {s s' : Bs}
theorem SwAt.lt (h : SwAt W w pa mb nw S s) : mb < w.heap.size := (Array.getElem?_eq_some_iff.1 h.row).1
theorem SwAt.keepb (h : SwAt W w pa mb nw S s) (hb : Below w.heap.size w w') : SwAt W w' pa mb nw S s :=
  ⟨h.bs.keepb hb, (hb.block _ h.lt).trans h.row, h.no, h.lo⟩
theorem SwGo.behind {w1 : World} (hb : Below w.heap.size w w1) (hg : SwGo W w1 pa mb nw S s w') : SwGo W w pa mb nw S s w' := by
  obtain ⟨S', h', o', r'⟩ := hg
  exact ⟨S', h', (Only.of_below hb).trans o', fun k hk => (r' k hk).imp id (fun h => Nat.le_trans hb.size h)⟩
theorem SwGo.then {w1 w2 : World} {S1 : Nat → Prop} (hm : mb < w.heap.size) (o1 : Only (fun k => S k ∨ k = mb) w w1) (r1 : ∀ k, S1 k → S k ∨ w.heap.size ≤ k) (hg : SwGo W w1 pa mb nw S1 s' w2) : SwGo W w pa mb nw S s' w2 := by
  obtain ⟨S2, h2, o2, r2⟩ := hg
  refine ⟨S2, h2, o1.fresh o2 (fun i hi hk => ?_), fun k hk => ?_⟩
  · rcases hk with hk | hk
    · rcases r1 i hk with h | h
      · exact .inl h
      · omega
    · exact .inr hk
  · rcases r2 k hk with h | h
    · exact r1 k h
    · exact .inr (Nat.le_trans o1.size h)
theorem SwAt.goes (h : SwAt W w pa mb nw S s) (hg : BsGo W w pa S s' w') : SwGo W w pa mb nw S s' (w'.setCell ⟨mb, 2, none⟩ (.int .i64 0)) ∧ w'.cell? ⟨mb, 2, none⟩ = some (.int .i64 0) ∧ w'.frozen? ⟨mb, 2, none⟩ = false := by
  obtain ⟨S', h', o', r'⟩ := hg
  have hr : w'.heap[mb]? = some (.cells #[.pointer (some ⟨pa, 0, none⟩), .int .i64 (nw : Int), .int .i64 0] 144 (0, 0)) := (o'.block mb h.lt h.no).trans h.row
  have hno : ¬ S' mb := fun hs => by
    rcases r' mb hs with h1 | h1
    · exact h.no h1
    · have := h.lt; omega
  have o2 : Only (fun k => k = mb) w' (w'.setCell ⟨mb, 2, none⟩ (.int .i64 0)) := (Only.refl (fun k => k = mb) w').setCell (p := ⟨mb, 2, none⟩) rfl _
  refine ⟨⟨S', ⟨h'.only o2 (fun k hk e => hno (e ▸ hk)) (fun k e => by rw [e]; exact h.lo), ?_, hno, h.lo⟩, ?_, r'⟩, row_cell hr rfl, row_frozen hr 2⟩
  · simp only [World.setCell, Array.getElem?_modify, hr]
    simp
  · exact (o'.mono (fun k _ hk => .inl hk)).trans (o2.mono (fun k _ hk => .inr hk))
end
end Go.Proofs.YtajholbcpmjhiaaGreatDoor
/- Walks of the package swap: the maker's put, mark and jump. (Printed by genswap.py.) -/
namespace Go.Proofs.YtajholbcpmjhiaaGreatDoor
open Go.RowKit
set_option maxRecDepth 100000 in
theorem sput1_any {W w : World} {pa mb nw : Nat} {S : Nat → Prop} {s : Bs} (h : SwAt W w pa mb nw S s) {pv : Option Addr} {nv cv : Nat} {l : List Ix} (hl : InsIn w (.slice pv nv cv) l) (hok : allI l) (hL : s.L.length + l.length < 4294967296) {b : Nat} (c0 : w.cell? ⟨b, 0, none⟩ = some (.pointer (some ⟨mb, 0, none⟩))) (c1 : w.cell? ⟨b + 1, 0, none⟩ = some (.slice pv nv cv)) (n0 : ¬ S b) (n1 : ¬ S (b + 1)) :
    Calls Tryz.prog 141 #[.pointer (some ⟨b, 0, none⟩), .pointer (some ⟨b + 1, 0, none⟩)] w fun e w' => e = .returned (.int .i64 0) ∧ BsGo W w pa S (s.put l) w' := by
  have cm := row_cell h.row (j := 0) rfl
  have nm := h.no
  have HP := ahid (fun w' (hb : Below w.heap.size w w') => bs_put (h.bs.keepb hb) (hl.keepb hb) (fun x hx => (hok x hx).2) hL)
  have HK := ahid (show ∀ w', Below w.heap.size w w' → w'.cell? ⟨b, 0, none⟩ = some (.pointer (some ⟨mb, 0, none⟩)) ∧ w'.cell? ⟨mb, 0, none⟩ = some (.pointer (some ⟨pa, 0, none⟩)) ∧ w'.cell? ⟨b + 1, 0, none⟩ = some (.slice pv nv cv) from fun w' hb => ⟨(hb.cell (p := ⟨b, 0, none⟩) (World.block_lt_of_cell? _ _ c0)).trans c0, (hb.cell (p := ⟨mb, 0, none⟩) (World.block_lt_of_cell? _ _ cm)).trans cm, (hb.cell (p := ⟨b + 1, 0, none⟩) (World.block_lt_of_cell? _ _ c1)).trans c1⟩)
  have hbd : Below w.heap.size w w.drew := (Below.refl _ _).drew
  clear h
  go_enter Tryz.func141, Tryz.ntmps141
  go_wp2_with fail
  go_region_held3 (fun w' => w'.cell? ⟨b, 0, none⟩ = some (.pointer (some ⟨mb, 0, none⟩)) ∧ w'.cell? ⟨mb, 0, none⟩ = some (.pointer (some ⟨pa, 0, none⟩)) ∧ w'.cell? ⟨b + 1, 0, none⟩ = some (.slice pv nv cv)) (first | (with_reducible exact ⟨c0, cm, c1⟩) | (exact ⟨hg.cell c0 n0, hg.cell cm nm, hg.cell c1 n1⟩) | (refine HK.out _ ?_; go_grown; done))
    (first | (go_at_call 29; (with_reducible refine (HP.out _ hbd).mono ?_); rintro e w2 ⟨rfl, hg⟩; have hg := hg.behind hbd))
  have HG := ahid hg
  go_wp2_with fail
  go_ret
  exact ⟨rfl, HG.out⟩
theorem sdo_put {W w : World} {pa mb nw : Nat} {S : Nat → Prop} {s s' : Bs} (h : SwAt W w pa mb nw S s) {b : Nat} (hf : Calls Tryz.prog 141 #[.pointer (some ⟨b, 0, none⟩), .pointer (some ⟨b + 1, 0, none⟩)] w fun e w' => e = .returned (.int .i64 0) ∧ BsGo W w pa S s' w') :
    Calls Tryz.prog 139 #[.pointer (some ⟨mb, 0, none⟩), .func (.func 141) #[] #[.pointer (some ⟨b, 0, none⟩), .pointer (some ⟨b + 1, 0, none⟩)]] w fun e w' => e = .returned (.tuple #[]) ∧ SwGo W w pa mb nw S s' w' := by
  have c2 := row_cell h.row (j := 2) rfl
  have HF := ahid hf
  have H := ahid h
  clear hf h
  go_enter Tryz.func139, Tryz.ntmps139
  go_wp2_with fail
  refine HF.out.mono ?_
  rintro e w1 ⟨rfl, hg⟩
  obtain ⟨hs, d2, f2⟩ := H.out.goes hg
  have HS := ahid hs
  clear hg hs c2
  go_wp2_with fail
  go_end0
  exact ⟨rfl, HS.out⟩
set_option maxRecDepth 100000 in
theorem sput_any {W w : World} {pa mb nw : Nat} {S : Nat → Prop} {s : Bs} (h : SwAt W w pa mb nw S s) {pv : Option Addr} {nv cv : Nat} {l : List Ix} (hl : InsIn w (.slice pv nv cv) l) (hok : allI l) (hL : s.L.length + l.length < 4294967296) :
    Calls Tryz.prog 84 #[.pointer (some ⟨mb, 0, none⟩), .slice pv nv cv] w fun e w' => e = .returned (.tuple #[]) ∧ SwGo W w pa mb nw S (s.put l) w' := by
  obtain ⟨w1, hw1⟩ : ∃ w1, w1 = (w.alloc (.cells #[.pointer (some ⟨mb, 0, none⟩)] 142)).alloc (.cells #[.slice pv nv cv] 137) := ⟨_, rfl⟩
  have hb : Below w.heap.size w w1 := by
    rw [hw1]
    exact (((Below.refl _ w).alloc (Nat.le_refl _) _)).alloc (by simp only [World.size_alloc]; omega) _
  have c0 : w1.cell? ⟨w.heap.size, 0, none⟩ = some (.pointer (some ⟨mb, 0, none⟩)) := by rw [hw1]; simp [go_sem]
  have c1 : w1.cell? ⟨w.heap.size + 1, 0, none⟩ = some (.slice pv nv cv) := by rw [hw1]; simp [go_sem]
  have hlt := fun k (hk : S k) => (h.bs.lst.lo k hk).2
  have HF := ahid (sdo_put (h.keepb hb) (sput1_any (h.keepb hb) (hl.keepb hb) hok hL (b := w.heap.size) c0 c1 (fun hs => by have := hlt _ hs; omega) (fun hs => by have := hlt _ hs; omega)))
  have HB := ahid hb
  clear h hb c0 c1 hlt
  go_enter Tryz.func84, Tryz.ntmps84
  go_wp2_with fail
  rw [← hw1]
  clear hw1
  refine HF.out.mono ?_
  rintro e w2 ⟨rfl, hg⟩
  have HG := ahid (hg.behind HB.out)
  clear hg
  go_wp2_with fail
  go_end0
  exact ⟨rfl, HG.out⟩
set_option maxRecDepth 100000 in
theorem smark1_any {W w : World} {pa mb nw : Nat} {S : Nat → Prop} {s : Bs} (h : SwAt W w pa mb nw S s) {nm0 : List UInt8} (hs : nm0.length ≤ 100) (hn : look s.M nm0 = none) (hM : s.M.length < 4294967296) (hL : s.L.length < 4294967296) {b : Nat} (c0 : w.cell? ⟨b, 0, none⟩ = some (.pointer (some ⟨mb, 0, none⟩))) (c1 : w.cell? ⟨b + 1, 0, none⟩ = some (.string ⟨nm0.toArray⟩)) (n0 : ¬ S b) (n1 : ¬ S (b + 1)) :
    Calls Tryz.prog 140 #[.pointer (some ⟨b, 0, none⟩), .pointer (some ⟨b + 1, 0, none⟩)] w fun e w' => e = .returned (.int .i64 0) ∧ BsGo W w pa S (s.mark nm0) w' := by
  have cm := row_cell h.row (j := 0) rfl
  have nm := h.no
  have HP := ahid (fun w' (hb : Below w.heap.size w w') => bs_mark (h.bs.keepb hb) hs hn hM hL)
  have HK := ahid (show ∀ w', Below w.heap.size w w' → w'.cell? ⟨b, 0, none⟩ = some (.pointer (some ⟨mb, 0, none⟩)) ∧ w'.cell? ⟨mb, 0, none⟩ = some (.pointer (some ⟨pa, 0, none⟩)) ∧ w'.cell? ⟨b + 1, 0, none⟩ = some (.string ⟨nm0.toArray⟩) from fun w' hb => ⟨(hb.cell (p := ⟨b, 0, none⟩) (World.block_lt_of_cell? _ _ c0)).trans c0, (hb.cell (p := ⟨mb, 0, none⟩) (World.block_lt_of_cell? _ _ cm)).trans cm, (hb.cell (p := ⟨b + 1, 0, none⟩) (World.block_lt_of_cell? _ _ c1)).trans c1⟩)
  have hbd : Below w.heap.size w w.drew := (Below.refl _ _).drew
  clear h
  go_enter Tryz.func140, Tryz.ntmps140
  go_wp2_with fail
  go_region_held3 (fun w' => w'.cell? ⟨b, 0, none⟩ = some (.pointer (some ⟨mb, 0, none⟩)) ∧ w'.cell? ⟨mb, 0, none⟩ = some (.pointer (some ⟨pa, 0, none⟩)) ∧ w'.cell? ⟨b + 1, 0, none⟩ = some (.string ⟨nm0.toArray⟩)) (first | (with_reducible exact ⟨c0, cm, c1⟩) | (exact ⟨hg.cell c0 n0, hg.cell cm nm, hg.cell c1 n1⟩) | (refine HK.out _ ?_; go_grown; done))
    (first | (go_at_call 117; (with_reducible refine (HP.out _ hbd).mono ?_); rintro e w2 ⟨rfl, hg⟩; have hg := hg.behind hbd))
  have HG := ahid hg
  go_wp2_with fail
  go_ret
  exact ⟨rfl, HG.out⟩
theorem sdo_mark {W w : World} {pa mb nw : Nat} {S : Nat → Prop} {s s' : Bs} (h : SwAt W w pa mb nw S s) {b : Nat} (hf : Calls Tryz.prog 140 #[.pointer (some ⟨b, 0, none⟩), .pointer (some ⟨b + 1, 0, none⟩)] w fun e w' => e = .returned (.int .i64 0) ∧ BsGo W w pa S s' w') :
    Calls Tryz.prog 139 #[.pointer (some ⟨mb, 0, none⟩), .func (.func 140) #[] #[.pointer (some ⟨b, 0, none⟩), .pointer (some ⟨b + 1, 0, none⟩)]] w fun e w' => e = .returned (.tuple #[]) ∧ SwGo W w pa mb nw S s' w' := by
  have c2 := row_cell h.row (j := 2) rfl
  have HF := ahid hf
  have H := ahid h
  clear hf h
  go_enter Tryz.func139, Tryz.ntmps139
  go_wp2_with fail
  refine HF.out.mono ?_
  rintro e w1 ⟨rfl, hg⟩
  obtain ⟨hs, d2, f2⟩ := H.out.goes hg
  have HS := ahid hs
  clear hg hs c2
  go_wp2_with fail
  go_end0
  exact ⟨rfl, HS.out⟩
set_option maxRecDepth 100000 in
theorem smark_any {W w : World} {pa mb nw : Nat} {S : Nat → Prop} {s : Bs} (h : SwAt W w pa mb nw S s) {nm0 : List UInt8} (hs : nm0.length ≤ 100) (hn : look s.M nm0 = none) (hM : s.M.length < 4294967296) (hL : s.L.length < 4294967296) :
    Calls Tryz.prog 83 #[.pointer (some ⟨mb, 0, none⟩), .string ⟨nm0.toArray⟩] w fun e w' => e = .returned (.tuple #[]) ∧ SwGo W w pa mb nw S (s.mark nm0) w' := by
  obtain ⟨w1, hw1⟩ : ∃ w1, w1 = (w.alloc (.cells #[.pointer (some ⟨mb, 0, none⟩)] 142)).alloc (.cells #[.string ⟨nm0.toArray⟩] 9) := ⟨_, rfl⟩
  have hb : Below w.heap.size w w1 := by
    rw [hw1]
    exact (((Below.refl _ w).alloc (Nat.le_refl _) _)).alloc (by simp only [World.size_alloc]; omega) _
  have c0 : w1.cell? ⟨w.heap.size, 0, none⟩ = some (.pointer (some ⟨mb, 0, none⟩)) := by rw [hw1]; simp [go_sem]
  have c1 : w1.cell? ⟨w.heap.size + 1, 0, none⟩ = some (.string ⟨nm0.toArray⟩) := by rw [hw1]; simp [go_sem]
  have hlt := fun k (hk : S k) => (h.bs.lst.lo k hk).2
  have HF := ahid (sdo_mark (h.keepb hb) (smark1_any (h.keepb hb) hs hn hM hL (b := w.heap.size) c0 c1 (fun hs => by have := hlt _ hs; omega) (fun hs => by have := hlt _ hs; omega)))
  have HB := ahid hb
  clear h hb c0 c1 hlt
  go_enter Tryz.func83, Tryz.ntmps83
  go_wp2_with fail
  rw [← hw1]
  clear hw1
  refine HF.out.mono ?_
  rintro e w2 ⟨rfl, hg⟩
  have HG := ahid (hg.behind HB.out)
  clear hg
  go_wp2_with fail
  go_end0
  exact ⟨rfl, HG.out⟩
set_option maxRecDepth 100000 in
theorem sjump1_any {W w : World} {pa mb nw : Nat} {S : Nat → Prop} {s : Bs} (h : SwAt W w pa mb nw S s) {cd : Int} (hc0 : 0 ≤ cd) (hc1 : cd ≤ 6) {nm0 : List UInt8} (hs : nm0.length ≤ 100) (hL : s.L.length < 4294967296) {b : Nat} (c0 : w.cell? ⟨b, 0, none⟩ = some (.pointer (some ⟨mb, 0, none⟩))) (c1 : w.cell? ⟨b + 1, 0, none⟩ = some (.int .u8 cd)) (c2 : w.cell? ⟨b + 2, 0, none⟩ = some (.string ⟨nm0.toArray⟩)) (n0 : ¬ S b) (n1 : ¬ S (b + 1)) (n2 : ¬ S (b + 2)) :
    Calls Tryz.prog 142 #[.pointer (some ⟨b, 0, none⟩), .pointer (some ⟨b + 1, 0, none⟩), .pointer (some ⟨b + 2, 0, none⟩)] w fun e w' => e = .returned (.int .i64 0) ∧ BsGo W w pa S (s.jump cd nm0) w' := by
  have cm := row_cell h.row (j := 0) rfl
  have nm := h.no
  have HP := ahid (fun w' (hb : Below w.heap.size w w') => bs_jump (h.bs.keepb hb) hc0 hc1 hs hL)
  have HK := ahid (show ∀ w', Below w.heap.size w w' → w'.cell? ⟨b, 0, none⟩ = some (.pointer (some ⟨mb, 0, none⟩)) ∧ w'.cell? ⟨mb, 0, none⟩ = some (.pointer (some ⟨pa, 0, none⟩)) ∧ w'.cell? ⟨b + 1, 0, none⟩ = some (.int .u8 cd) ∧ w'.cell? ⟨b + 2, 0, none⟩ = some (.string ⟨nm0.toArray⟩) from fun w' hb => ⟨(hb.cell (p := ⟨b, 0, none⟩) (World.block_lt_of_cell? _ _ c0)).trans c0, (hb.cell (p := ⟨mb, 0, none⟩) (World.block_lt_of_cell? _ _ cm)).trans cm, (hb.cell (p := ⟨b + 1, 0, none⟩) (World.block_lt_of_cell? _ _ c1)).trans c1, (hb.cell (p := ⟨b + 2, 0, none⟩) (World.block_lt_of_cell? _ _ c2)).trans c2⟩)
  have hbd : Below w.heap.size w w.drew := (Below.refl _ _).drew
  clear h
  go_enter Tryz.func142, Tryz.ntmps142
  go_wp2_with fail
  go_region_held3 (fun w' => w'.cell? ⟨b, 0, none⟩ = some (.pointer (some ⟨mb, 0, none⟩)) ∧ w'.cell? ⟨mb, 0, none⟩ = some (.pointer (some ⟨pa, 0, none⟩)) ∧ w'.cell? ⟨b + 1, 0, none⟩ = some (.int .u8 cd) ∧ w'.cell? ⟨b + 2, 0, none⟩ = some (.string ⟨nm0.toArray⟩)) (first | (with_reducible exact ⟨c0, cm, c1, c2⟩) | (exact ⟨hg.cell c0 n0, hg.cell cm nm, hg.cell c1 n1, hg.cell c2 n2⟩) | (refine HK.out _ ?_; go_grown; done))
    (first | (go_at_call 116; (with_reducible refine (HP.out _ hbd).mono ?_); rintro e w2 ⟨rfl, hg⟩; have hg := hg.behind hbd))
  have HG := ahid hg
  go_wp2_with fail
  go_ret
  exact ⟨rfl, HG.out⟩
theorem sdo_jump {W w : World} {pa mb nw : Nat} {S : Nat → Prop} {s s' : Bs} (h : SwAt W w pa mb nw S s) {b : Nat} (hf : Calls Tryz.prog 142 #[.pointer (some ⟨b, 0, none⟩), .pointer (some ⟨b + 1, 0, none⟩), .pointer (some ⟨b + 2, 0, none⟩)] w fun e w' => e = .returned (.int .i64 0) ∧ BsGo W w pa S s' w') :
    Calls Tryz.prog 139 #[.pointer (some ⟨mb, 0, none⟩), .func (.func 142) #[] #[.pointer (some ⟨b, 0, none⟩), .pointer (some ⟨b + 1, 0, none⟩), .pointer (some ⟨b + 2, 0, none⟩)]] w fun e w' => e = .returned (.tuple #[]) ∧ SwGo W w pa mb nw S s' w' := by
  have c2 := row_cell h.row (j := 2) rfl
  have HF := ahid hf
  have H := ahid h
  clear hf h
  go_enter Tryz.func139, Tryz.ntmps139
  go_wp2_with fail
  refine HF.out.mono ?_
  rintro e w1 ⟨rfl, hg⟩
  obtain ⟨hs, d2, f2⟩ := H.out.goes hg
  have HS := ahid hs
  clear hg hs c2
  go_wp2_with fail
  go_end0
  exact ⟨rfl, HS.out⟩
set_option maxRecDepth 100000 in
theorem sjump_any {W w : World} {pa mb nw : Nat} {S : Nat → Prop} {s : Bs} (h : SwAt W w pa mb nw S s) {cd : Int} (hc0 : 0 ≤ cd) (hc1 : cd ≤ 6) {nm0 : List UInt8} (hs : nm0.length ≤ 100) (hL : s.L.length < 4294967296) :
    Calls Tryz.prog 88 #[.pointer (some ⟨mb, 0, none⟩), .int .u8 cd, .string ⟨nm0.toArray⟩] w fun e w' => e = .returned (.tuple #[]) ∧ SwGo W w pa mb nw S (s.jump cd nm0) w' := by
  obtain ⟨w1, hw1⟩ : ∃ w1, w1 = ((w.alloc (.cells #[.pointer (some ⟨mb, 0, none⟩)] 142)).alloc (.cells #[.int .u8 cd] 5)).alloc (.cells #[.string ⟨nm0.toArray⟩] 9) := ⟨_, rfl⟩
  have hb : Below w.heap.size w w1 := by
    rw [hw1]
    exact ((((Below.refl _ w).alloc (Nat.le_refl _) _)).alloc (by simp only [World.size_alloc]; omega) _).alloc (by simp only [World.size_alloc]; omega) _
  have c0 : w1.cell? ⟨w.heap.size, 0, none⟩ = some (.pointer (some ⟨mb, 0, none⟩)) := by rw [hw1]; simp [go_sem]
  have c1 : w1.cell? ⟨w.heap.size + 1, 0, none⟩ = some (.int .u8 cd) := by rw [hw1]; simp [go_sem]
  have c2 : w1.cell? ⟨w.heap.size + 2, 0, none⟩ = some (.string ⟨nm0.toArray⟩) := by rw [hw1]; simp [go_sem]
  have hlt := fun k (hk : S k) => (h.bs.lst.lo k hk).2
  have HF := ahid (sdo_jump (h.keepb hb) (sjump1_any (h.keepb hb) hc0 hc1 hs hL (b := w.heap.size) c0 c1 c2 (fun hs => by have := hlt _ hs; omega) (fun hs => by have := hlt _ hs; omega) (fun hs => by have := hlt _ hs; omega)))
  have HB := ahid hb
  clear h hb c0 c1 c2 hlt
  go_enter Tryz.func88, Tryz.ntmps88
  go_wp2_with fail
  rw [← hw1]
  clear hw1
  refine HF.out.mono ?_
  rintro e w2 ⟨rfl, hg⟩
  have HG := ahid (hg.behind HB.out)
  clear hg
  go_wp2_with fail
  go_end0
  exact ⟨rfl, HG.out⟩
end Go.Proofs.YtajholbcpmjhiaaGreatDoor
