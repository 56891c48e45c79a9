/- Several texts in one: TickTaken, BootLst, TickAll. -/
import Derived.Test.YtajholbcpmjhiaaGreatDoorH25
import Derived.Deep.OwnRows
import Derived.Deep.CutRange
set_option linter.unusedVariables false
set_option linter.unusedSimpArgs false
/- The walk of muntinref09.Taken. -/
namespace Go.Proofs.YtajholbcpmjhiaaGreatDoor
open Go.RowKit Go.Maps
theorem infot8 : (Tryz.prog.info? 5).map (fun i => (i.zero, i.size, i.bytes)) = some (some (.int .u8 0), 1, 1) := by kernel_rfl
theorem infotI : (Tryz.prog.info? 3).map (fun i => (i.zero, i.size, i.bytes)) = some (some (.int .i64 0), 1, 8) := by kernel_rfl
theorem infot32 : (Tryz.prog.info? 24).map (fun i => (i.zero, i.size, i.bytes)) = some (some (.int .u32 0), 1, 4) := by kernel_rfl
def outV (out : Nat → Nat) : List Int := (List.range 16).map fun j => (out j : Int)
theorem outV_len (out : Nat → Nat) : (outV out).length = 16 := by unfold outV; simp
theorem outV_at (out : Nat → Nat) {j : Nat} (hj : j < 16) : (outV out).getD j 0 = (out j : Int) := by
  unfold outV
  rw [List.getD_eq_getElem?_getD, List.getElem?_map, List.getElem?_range hj]; rfl
theorem outV_set (out : Nat → Nat) {j : Nat} (hj : j < 16) : (outV out).set j ((out j : Int) + 1) = outV (bump out j) := by
  refine List.ext_getElem? fun i => ?_
  by_cases hi : i < 16
  · by_cases e : i = j
    · subst e
      rw [List.getElem?_set_self (by rw [outV_len]; omega)]
      unfold outV
      rw [List.getElem?_map, List.getElem?_range hi]
      simp [bump]
    · rw [List.getElem?_set_ne (fun h => e h.symm)]
      unfold outV
      rw [List.getElem?_map, List.getElem?_map, List.getElem?_range hi]
      simp [bump, e]
  · rw [List.getElem?_eq_none (by rw [List.length_set, outV_len]; omega), List.getElem?_eq_none (by rw [outV_len]; omega)]
def opL (st : List (Nat × Nat)) : List Value := st.reverse.map fun e => .int .u8 (e.1 : Int)
def lfL (st : List (Nat × Nat)) : List Value := st.reverse.map fun e => .int .i64 (e.2 : Int)
theorem opL_len (st : List (Nat × Nat)) : (opL st).length = st.length := by unfold opL; simp
theorem lfL_len (st : List (Nat × Nat)) : (lfL st).length = st.length := by unfold lfL; simp
theorem opL_cons (e : Nat × Nat) (st : List (Nat × Nat)) : opL (e :: st) = opL st ++ [.int .u8 (e.1 : Int)] := by unfold opL; simp
theorem lfL_cons (e : Nat × Nat) (st : List (Nat × Nat)) : lfL (e :: st) = lfL st ++ [.int .i64 (e.2 : Int)] := by unfold lfL; simp
theorem owns_onlyT {S : Nat → Prop} {w w' : World} {B size n : Nat} {e : TypeId} {v : Value} {xs : List Value} (h : w.ownsRow B e size v n xs) (o : Only S w w') (hS : ∀ k, B ≤ k → ¬ S k) : w'.ownsRow B e size v n xs := by
  refine ⟨h.1, ?_⟩
  rcases h.2 with h | ⟨g, cap, cur, h1, h2, h3, h4⟩
  · exact .inl h
  · exact .inr ⟨g, cap, cur, h1, h2, (o.block g (lt_of_block h3) (hS g h2)).trans h3, h4⟩
theorem owns_liftT {w : World} {B n g c : Nat} {e : TypeId} {xs : List Value} (h : w.ownsRow 0 e 1 (.slice (some ⟨g, 0, none⟩) n c) n xs) (hB : B ≤ g) : w.ownsRow B e 1 (.slice (some ⟨g, 0, none⟩) n c) n xs := by
  refine ⟨h.1, ?_⟩
  rcases h.2 with ⟨h1, -⟩ | ⟨g', cap, cur, hv, h2⟩
  · cases h1
  · cases hv
    exact .inr ⟨g, c, cur, rfl, hB, h2.2⟩
structure TakeAt (wr : World) (base g5 : Nat) (vo vl : Value) (st : List (Nat × Nat)) (out : Nat → Nat) : Prop where
  row : ARow wr g5 24 (u32s (outV out))
  g5 : g5 < base
  op : wr.ownsRow base 5 1 vo st.length (opL st)
  lf : wr.ownsRow base 3 1 vl st.length (lfL st)
theorem owns_keepT {w w' : World} {B size n : Nat} {e : TypeId} {v : Value} {xs : List Value} (h : w.ownsRow B e size v n xs) (hb : Below w.heap.size w w') : w'.ownsRow B e size v n xs := by
  refine ⟨h.1, ?_⟩
  rcases h.2 with h | ⟨g, cap, cur, h1, h2, h3, h4⟩
  · exact .inl h
  · exact .inr ⟨g, cap, cur, h1, h2, (hb.block g (lt_of_block h3)).trans h3, h4⟩
theorem owns_shapeT {w : World} {B n size : Nat} {e : TypeId} {v : Value} {xs : List Value} (h : w.ownsRow B e size v n xs) : ∃ p c, v = .slice p n c ∧ (p = none → n = 0 ∧ c = 0) ∧ (∀ ad, p = some ad → ∃ g, ad = ⟨g, 0, none⟩) := by
  rcases h.2 with ⟨rfl, rfl⟩ | ⟨g, cap, cur, rfl, h2, h3, _⟩
  · exact ⟨none, 0, rfl, fun _ => ⟨rfl, rfl⟩, fun ad h => by cases h⟩
  · exact ⟨_, _, rfl, fun h => (by cases h), fun ad h => by cases h; exact ⟨g, rfl⟩⟩
theorem owns_cellT {w : World} {B n : Nat} {e : TypeId} {g c : Nat} {xs : List Value} (h : w.ownsRow B e 1 (.slice (some ⟨g, 0, none⟩) n c) n xs) {j : Nat} {u : Value} (hu : xs[j]? = some u) : w.cell? ⟨g, j, none⟩ = some u := by
  have hj : j < xs.length := (List.getElem?_eq_some_iff.1 hu).1
  have hl : xs.length = n := by have := h.1; simpa using this
  rcases h.2 with ⟨h1, -⟩ | ⟨g', cap, cur, hv, hg, hh, hc, hm, hs, ht⟩
  · cases h1
  · cases hv
    rw [cell_of_obj hh]
    have e2 : cur[j]? = (cur.toList.take (n * 1))[j]? := by rw [Nat.mul_one, List.getElem?_take_of_lt (by omega)]; simp
    rw [e2, ht]; exact hu
theorem owns_setT {w : World} {B n : Nat} {e : TypeId} {g c : Nat} {xs : List Value} (h : w.ownsRow B e 1 (.slice (some ⟨g, 0, none⟩) n c) n xs) (j : Nat) (u : Value) : (w.setCell ⟨g, j, none⟩ u).ownsRow B e 1 (.slice (some ⟨g, 0, none⟩) n c) n (xs.set j u) := by
  refine ⟨by rw [List.length_set]; exact h.1, ?_⟩
  rcases h.2 with ⟨h1, -⟩ | ⟨g', cap, cur, hv, hg, hh, hc, hm, hs, ht⟩
  · cases h1
  · cases hv
    refine .inr ⟨g, c, cur.setIfInBounds j u, rfl, hg, ?_, hc, hm, by simpa using hs, ?_⟩
    · simp [World.setCell, Array.getElem?_modify, hh]
    · rw [Array.toList_setIfInBounds, List.take_set, ht]
theorem owns_preT {w : World} {B n n2 : Nat} {e : TypeId} {g c : Nat} {xs : List Value} (h : w.ownsRow B e 1 (.slice (some ⟨g, 0, none⟩) n c) n xs) (hn : n2 ≤ n) : w.ownsRow B e 1 (.slice (some ⟨g, 0, none⟩) n2 c) n2 (xs.take n2) := by
  have hl := h.1
  refine ⟨by rw [List.length_take]; omega, ?_⟩
  rcases h.2 with ⟨h1, -⟩ | ⟨g', cap, cur, hv, hg, hh, hc, hm, hs, ht⟩
  · cases h1
  · cases hv
    refine .inr ⟨g, c, cur, rfl, hg, hh, by omega, hm, hs, ?_⟩
    rw [← ht, List.take_take, Nat.min_eq_left (by omega), Nat.mul_one]
theorem owns_capT {w : World} {B n : Nat} {e : TypeId} {g c : Nat} {xs : List Value} (h : w.ownsRow B e 1 (.slice (some ⟨g, 0, none⟩) n c) n xs) : n ≤ c ∧ B ≤ g ∧ ∃ cur, w.heap[g]? = some (.cells cur e (0, 0)) := by
  rcases h.2 with ⟨h1, -⟩ | ⟨g', cap, cur, hv, hg, hh, hc, -⟩
  · cases h1
  · cases hv; exact ⟨hc, hg, cur, hh⟩
theorem owns_apartT {w : World} {B B2 n n2 : Nat} {e e2 : TypeId} {g g2 c c2 : Nat} {xs ys : List Value} (h : w.ownsRow B e 1 (.slice (some ⟨g, 0, none⟩) n c) n xs) (h2 : w.ownsRow B2 e2 1 (.slice (some ⟨g2, 0, none⟩) n2 c2) n2 ys) (he : e ≠ e2) : g ≠ g2 := by
  intro e3
  subst e3
  obtain ⟨-, -, c1, a1⟩ := owns_capT h
  obtain ⟨-, -, c2, a2⟩ := owns_capT h2
  rw [a1] at a2
  cases a2
  exact he rfl
theorem owns_farT {w : World} {B n : Nat} {e : TypeId} {g c g2 j : Nat} {u : Value} {xs : List Value} (h : w.ownsRow B e 1 (.slice (some ⟨g, 0, none⟩) n c) n xs) (hg : g ≠ g2) : (w.setCell ⟨g2, j, none⟩ u).ownsRow B e 1 (.slice (some ⟨g, 0, none⟩) n c) n xs := by
  refine ⟨h.1, ?_⟩
  rcases h.2 with h | ⟨g', cap, cur, hv, h2, h3, h4⟩
  · exact .inl h
  · cases hv
    exact .inr ⟨g, c, cur, rfl, h2, (Below.heap_setCell _ _ _ _ hg).trans h3, h4⟩
theorem owns_frozenT {w : World} {B n : Nat} {e : TypeId} {g c : Nat} {xs : List Value} (h : w.ownsRow B e 1 (.slice (some ⟨g, 0, none⟩) n c) n xs) (j : Nat) : w.frozen? ⟨g, j, none⟩ = false := by
  obtain ⟨-, -, cur, hh⟩ := owns_capT h
  have : VRow w g e cur.toList := ⟨cur, hh, fun k x hx => by simpa using hx⟩
  exact this.frozen j
theorem owns_loT {w : World} {B B2 n : Nat} {e : TypeId} {v : Value} {xs : List Value} (h : w.ownsRow B e 1 v n xs) (hB : B2 ≤ B) : w.ownsRow B2 e 1 v n xs := by
  refine ⟨h.1, ?_⟩
  rcases h.2 with h | ⟨g, cap, cur, hv, h2, h3⟩
  · exact .inl h
  · exact .inr ⟨g, cap, cur, hv, Nat.le_trans hB h2, h3⟩
theorem tkOn_one (l : Nat) (r : List (Nat × Nat)) : tkOn ((l, 1) :: r) = r := by simp [tkOn]
theorem tkOn_more (l kk : Nat) (r : List (Nat × Nat)) (h : ¬ kk + 1 = 1) : tkOn ((l, kk + 1) :: r) = (l, kk) :: r := by simp only [tkOn]; rw [if_neg h, Nat.add_sub_cancel]
theorem tk_take {pil : Int} {c0 : Nat} {st : List (Nat × Nat)} {cnt out : Nat → Nat} {lv : Nat} (h : tkTake pil st lv) : Tk.step pil ⟨c0, st, cnt, out⟩ lv = ⟨c0, (lv, 5) :: st, cnt, bump out lv⟩ := by unfold Tk.step; rw [if_pos h]
theorem tk_on {pil : Int} {c0 : Nat} {st : List (Nat × Nat)} {cnt out : Nat → Nat} {lv : Nat} (h : ¬ tkTake pil st lv) : (Tk.step pil ⟨c0, st, cnt, out⟩ lv).st = tkOn st ∧ (Tk.step pil ⟨c0, st, cnt, out⟩ lv).out = out := by unfold Tk.step; rw [if_neg h]; exact ⟨rfl, rfl⟩
theorem reads_row {w : World} {g : Nat} {out : Nat → Nat} (h : ARow w g 24 (u32s (outV out))) : Reads32 w (.slice (some ⟨g, 0, none⟩) 16 16) (outV out) := by
  have hl := outV_len out
  refine ⟨by rw [hl]; unfold maxLen; omega, some ⟨g, 0, none⟩, 16, by rw [hl], fun _ => ⟨g, 0, rfl, fun k hk => ?_⟩⟩
  rw [Nat.zero_add]
  exact h.cell (u32s_get hk)
set_option maxRecDepth 100000 in
set_option maxHeartbeats 8000000 in
theorem taken_any (w : World) (v : Value) (vs : List Int) (hv : LevelsIn w v vs) (pil : Int) (hp : 0 ≤ pil ∧ pil ≤ 15) (hn : vs.length ≤ 100) :
    Calls Tryz.prog 47 #[v, .int .u8 pil] w fun e w' => ∃ g, e = .returned (.slice (some ⟨g, 0, none⟩) 16 16) ∧ w.heap.size ≤ g ∧ Reads32 w' (.slice (some ⟨g, 0, none⟩) 16 16) (outV (Tk.run pil Tk.zero (vs.map Int.toNat)).out) ∧ Below w.heap.size w w' := by
  obtain ⟨h1, h2, p, c, b, o, rfl, hpp, hcc⟩ := hv
  have HB8 := mhid h2
  have HCC := mhid hcc
  have HPP := mhid hpp
  clear h1 h2 hcc hpp
  have mk : ∀ W : World, (Instr.makeSlice 22 (.int .i64 16) (.int .i64 16)).run Tryz.prog W = .ok (.slice (some ⟨W.heap.size, 0, none⟩) 16 16) (W.alloc (.cells (madeCells #[.int .u32 0] 16) 24)) := fun (W : World) => run_make_row' (P := Tryz.prog) 22 24 (.int .u32 0) 4 Tryz.underlying22 infot32 rfl .i64 .i64 16 (by decide) (by decide) W
  have hT0 : TakeAt (w.alloc (.cells (madeCells #[.int .u32 0] 16) 24)) (w.heap.size + 1) w.heap.size (.slice none 0 0) (.slice none 0 0) [] (fun _ => 0) := by
    refine ⟨?_, by omega, World.ownsRow_nil _ _ _ _, World.ownsRow_nil _ _ _ _⟩
    have hr : (madeCells #[(.int .u32 0 : Value)] 16).toList = u32s (outV fun _ => 0) := by
      rw [toList_madeCells_one]; rfl
    rw [← hr]
    exact ARow.fresh w _ _
  have hb0 : Below w.heap.size w (w.alloc (.cells (madeCells #[.int .u32 0] 16) 24)) := (Below.refl _ _).alloc (Nat.le_refl _) _
  have HT0 := mhid hT0
  have HB0 := mhid hb0
  clear hT0 hb0
  go_enter Tryz.func47, Tryz.ntmps47
  go_wp2_with fail
  generalize w.alloc (.cells (madeCells #[.int .u32 0] 16) 24) = W1 at *
  obtain ⟨n, hnl⟩ : ∃ n, n = vs.length := ⟨_, rfl⟩
  rw [← hnl] at hn HPP ⊢
  have HN := mhid hnl
  clear hnl mk
  go_loopw [6, 7, 8] (fun vo vl i wr => ∃ (k : Nat) (s : Tk), k ≤ n ∧ i = .int .i64 (k : Int) ∧ Hid (TakeAt wr (w.heap.size + 1) w.heap.size vo vl s.st s.out) ∧ Hid (s = Tk.run pil Tk.zero ((vs.take k).map Int.toNat)) ∧ Hid (TkOk pil k s) ∧ Hid (Below w.heap.size w wr)) (fun _ _ i _ => n - (intOf i).toNat)
  case atStart => exact ⟨0, Tk.zero, Nat.zero_le _, rfl, HT0, mhid rfl, mhid (TkOk.zero pil), HB0⟩
  case round =>
    clear HT0 HB0
    obtain ⟨k, s, hk, rfl, HT, HS, HO, HB⟩ := hrel
    have e1 : IntKind.i64.wrap ((k : Int) + 1) = ((k + 1 : Nat) : Int) := by rw [IntWalk.i64_in _ (by omega)]; omega
    by_cases hlt : k < n
    · have h1 : (k : Int) < (n : Int) := by omega
      have h0 : ¬ (k : Int) < 0 := by omega
      obtain rfl := HPP.out (by omega)
      have hkl : k < vs.length := by have := HN.out; omega
      obtain ⟨x, hx⟩ : ∃ x, vs[k]? = some x := ⟨_, List.getElem?_eq_getElem hkl⟩
      have hxb := HB8.out x (List.mem_of_getElem? hx)
      obtain ⟨lv, rfl⟩ := Int.eq_ofNat_of_zero_le hxb.1
      have hc : wr.cell? ⟨b, o + k, none⟩ = some (.int .u8 (lv : Int)) := (HB.out.cell (World.block_lt_of_cell? _ _ (HCC.out k _ hx))).trans (HCC.out k _ hx)
      have HLV := mhid (show (vs.take (k + 1)).map Int.toNat = (vs.take k).map Int.toNat ++ [lv] from by
        rw [List.take_add_one, hx, List.map_append]; rfl)
      have HNX := mhid (show s.step pil lv = Tk.run pil Tk.zero ((vs.take (k + 1)).map Int.toNat) from by
        rw [HLV.out]
        unfold Tk.run
        rw [List.foldl_append, show List.foldl (Tk.step pil) Tk.zero ((vs.take k).map Int.toNat) = s from HS.out.symm]; rfl)
      have HOX := mhid (HO.out.step lv)
      have hl256 : lv < 256 := by omega
      obtain ⟨po, co, rfl, hno, hao⟩ := owns_shapeT HT.out.op
      obtain ⟨pl, cl, rfl, hnl, hal⟩ := owns_shapeT HT.out.lf
      have HSL := mhid (show s.st.length ≤ 100 from by have := HO.out.len; omega)
      have HH := mhid (And.intro hno (And.intro hao (And.intro hnl hal)))
      have HPOS := mhid HO.out.pos
      have HOB := mhid (show ∀ j, s.out j ≤ 100 from fun j => by have := HO.out.out j; omega)
      have HBN := mhid (show b ≠ w.heap.size from by have := World.block_lt_of_cell? _ _ (HCC.out k _ hx); have : b < w.heap.size := this; omega)
      have HMB := mhid (HO.out.mask hp)
      have HLT := mhid (And.intro hlt hk)
      have E1 := mhid e1
      clear hno hao hnl hal HLV HS HO hxb hx hlt hk hkl e1
      obtain ⟨c0, st, cnt, out⟩ := s
      go_upto_if 21 with (fail)
      obtain ⟨wr0, hwr0⟩ : ∃ x, x = wr := ⟨_, rfl⟩
      go_cut [9] from 18 to 28 (fun mv w' => w' = wr0 ∧ mv = .int .u8 (tkMask pil st))
      case first =>
        cases st with
        | nil =>
          have hg : ¬ ((0 : Nat) : Int) > 0 := by omega
          go_wp2_with fail
          go_meet
          exact ⟨hwr0.symm, rfl⟩
        | cons e r =>
          obtain ⟨l, k5⟩ := e
          obtain ⟨go, rfl⟩ : ∃ go, po = some ⟨go, 0, none⟩ := by
            cases po with
            | none => have := (HH.out.1 rfl).1; simp at this
            | some ad => obtain ⟨g, rfl⟩ := HH.out.2.1 ad rfl; exact ⟨g, rfl⟩
          have hlast : wr.cell? ⟨go, r.length, none⟩ = some (.int .u8 (l : Int)) := owns_cellT HT.out.op (by rw [opL_cons, List.getElem?_append_right (by rw [opL_len]; exact Nat.le_refl _), opL_len, Nat.sub_self]; rfl)
          have hls : r.length + 1 ≤ 100 := HSL.out
          have hql : ((l, k5) :: r : List (Nat × Nat)).length = r.length + 1 := rfl
          rw [hql]
          have hg : ((r.length + 1 : Nat) : Int) > 0 := by omega
          have hq0 : ¬ (r.length : Int) < 0 := by omega
          have hq1 : (r.length : Int) < ((r.length + 1 : Nat) : Int) := by omega
          have hq2 : (r.length : Int) ≤ 99 := by omega
          have hl1 : IntKind.i64.wrap (r.length : Int) = (r.length : Int) := IntWalk.i64_in _ (by omega)
          have hl2 : IntKind.i64.wrap (((r.length + 1 : Nat) : Int) - 1) = (r.length : Int) := by rw [IntWalk.i64_in _ (by omega)]; omega
          go_wp2_with fail
          go_meet
          exact ⟨hwr0.symm, rfl⟩
      case rest =>
        obtain ⟨rfl, rfl⟩ := hcut
        obtain rfl := hwr0
        have hmb := HMB.out
        obtain ⟨mk, hmk⟩ : ∃ mk, mk = tkMask pil st := ⟨_, rfl⟩
        have hmb : 0 ≤ mk ∧ mk ≤ 15 := by rw [hmk]; exact hmb
        rw [← hmk]
        have HMK := mhid hmk
        clear hmk
        by_cases ht : tkTake pil st lv
        · have hl15 : (lv : Int) ≤ 15 := by have := ht.1; omega
          have hlm : (lv : Int) > mk := by rw [HMK.out]; exact ht.2
          have hl16 : lv < 16 := ht.1
          have hl16' : (lv : Int) < 16 := by omega
          have hl0 : ¬ (lv : Int) < 0 := by omega
          have HTK := mhid ht
          obtain ⟨ov, hov⟩ : ∃ ov, ov = out lv := ⟨_, rfl⟩
          have hro : wc.cell? ⟨w.heap.size, lv, none⟩ = some (.int .u32 (ov : Int)) := by
            have := HT.out.row.cell (u32s_get (k := lv) (by rw [outV_len]; omega))
            rw [outV_at out hl16] at this
            rw [hov]; exact this
          have hrf := HT.out.row.frozen lv
          have hob : (ov : Int) < 4294967295 := by have : out lv ≤ 100 := HOB.out lv; omega
          have hou : IntKind.u32.wrap ((ov : Int) + 1) = (ov : Int) + 1 := IntWalk.u32_in _ (by omega)
          have HOV := mhid hov
          clear hov ht
          have hT2 : TakeAt (wc.setCell ⟨w.heap.size, lv, none⟩ (.int .u32 ((ov : Int) + 1))) (w.heap.size + 1) w.heap.size (.slice po st.length co) (.slice pl st.length cl) st (bump out lv) := by
            have o : Only (fun q => q = w.heap.size) wc (wc.setCell ⟨w.heap.size, lv, none⟩ (.int .u32 ((ov : Int) + 1))) := (Only.refl (fun q => q = w.heap.size) wc).setCell (p := ⟨w.heap.size, lv, none⟩) rfl _
            refine ⟨?_, by omega, owns_onlyT HT.out.op o (fun q hq e => by omega), owns_onlyT HT.out.lf o (fun q hq e => by omega)⟩
            have := HT.out.row.set lv (.int .u32 ((ov : Int) + 1))
            rw [u32s_set, HOV.out, outV_set out hl16, ← HOV.out] at this
            exact this
          have hb2 : Below w.heap.size w (wc.setCell ⟨w.heap.size, lv, none⟩ (.int .u32 ((ov : Int) + 1))) := HB.out.setCell (p := ⟨w.heap.size, lv, none⟩) (Nat.le_refl _) _
          have hc2 : (wc.setCell ⟨w.heap.size, lv, none⟩ (.int .u32 ((ov : Int) + 1))).cell? ⟨b, o + k, none⟩ = some (.int .u8 (lv : Int)) := (World.cell?_setCell_far _ _ _ _ (fun e => HBN.out e.symm)).trans hc
          have HT2 := mhid hT2
          have HB2 := mhid hb2
          have HC2 := mhid hc2
          go_upto_region 12 with (fail)
          clear hT2 hb2 hc2 hc hro hrf HT HB
          generalize wc.setCell ⟨w.heap.size, lv, none⟩ (.int .u32 ((ov : Int) + 1)) = W2 at *
          have hc := HC2.out
          have HKS := mhid (fun (w' : World) (hb : Below W2.heap.size W2 w') => (show w'.cell? ⟨b, o + k, none⟩ = some (.int .u8 (lv : Int)) from (hb.cell (World.block_lt_of_cell? _ _ HC2.out)).trans HC2.out))
          go_cut [6] from 50 to 59 (fun v6 w' => ∃ g6 c6, v6 = .slice (some ⟨g6, 0, none⟩) (st.length + 1) c6 ∧ Hid (w'.ownsRow (w.heap.size + 1) 5 1 v6 (st.length + 1) (opL st ++ [.int .u8 (lv : Int)])) ∧ Hid (Below W2.heap.size W2 w'))
          case first =>
            obtain ⟨i0, hi, hz0, hz1, hz2⟩ := info_parts infot8
            have HII := mhid (And.intro hi (And.intro hz0 (And.intro hz1 hz2)))
            clear hi hz0 hz1 hz2
            have HW1 := mhid (show (W2.alloc (.cells #[] 5)).ownsRow 0 5 1 (.slice (some ⟨W2.heap.size, 0, none⟩) 0 0) 0 [] from World.ownsRow_made W2 #[] 0 (Nat.zero_le _) (Nat.zero_le _) rfl)
            have HW2 := mhid (show ((W2.alloc (.cells #[.int .u8 (lv : Int)] 5)).alloc (.cells #[] 5)).ownsRow 0 5 1 (.slice (some ⟨W2.heap.size + 1, 0, none⟩) 0 0) 0 [] from by
              have h := World.ownsRow_made (base := 0) (size := 1) (e := 5) (W2.alloc (.cells #[.int .u8 (lv : Int)] 5)) #[] 0 (Nat.zero_le _) (Nat.zero_le _) rfl
              rw [show (W2.alloc (.cells #[.int .u8 (lv : Int)] 5)).heap.size = W2.heap.size + 1 by simp] at h
              exact h)
            have HNO := mhid (show ∀ (W : World), Below W2.heap.size W2 W → ∀ ad, po = some ad → ∀ (j : Nat) u, (opL st)[j]? = some u → W.cell? (ad.add j) = some u from fun W hb ad ha j u hu => by
              obtain ⟨g, rfl⟩ := HH.out.2.1 ad ha
              subst ha
              have := owns_cellT HT2.out.op hu
              rw [show (⟨g, 0, none⟩ : Addr).add j = ⟨g, j, none⟩ from by unfold Addr.add; split <;> simp [*]]
              exact (hb.cell (World.block_lt_of_cell? _ _ this)).trans this)
            have HONE := mhid (show ∀ u ∈ opL st, u.oneCell' = true from fun u hu => by
              unfold opL at hu
              obtain ⟨e, _, rfl⟩ := List.mem_map.1 hu
              rfl)
            have HNW2 := mhid (show ((W2.alloc (.cells #[] 5)).alloc (.cells #[.int .u8 (lv : Int)] 5)).cell? ⟨W2.heap.size + 1, 0, none⟩ = some (.int .u8 (lv : Int)) from by
              have h := cell_of_obj (heap_alloc_new (W2.alloc (.cells #[] 5)) (.cells #[.int .u8 (lv : Int)] 5)) (i := 0)
              rw [show (W2.alloc (.cells #[] 5)).heap.size = W2.heap.size + 1 by simp] at h
              exact h)
            have HNW3 := mhid (show ((W2.alloc (.cells #[.int .u8 (lv : Int)] 5)).alloc (.cells #[] 5)).cell? ⟨W2.heap.size, 0, none⟩ = some (.int .u8 (lv : Int)) from by
              have h := cell_of_obj (heap_alloc_new W2 (.cells #[.int .u8 (lv : Int)] 5)) (i := 0)
              exact ((Below.refl (W2.heap.size + 1) (W2.alloc (.cells #[.int .u8 (lv : Int)] 5))).alloc (by simp) _).cell (p := ⟨W2.heap.size, 0, none⟩) (Nat.lt_succ_self _) |>.trans h)
            have HBW := mhid (show ∀ q, W2.heap.size ≤ q → some b ≠ some q from fun q hq e => by have := World.block_lt_of_cell? _ _ HC2.out; have : b < W2.heap.size := this; cases e; omega)
            have HQ3 := mhid (show 0 + st.length ≤ maxLen ∧ (0 + st.length) * 1 ≤ 140737488355328 ∧ st.length + 1 ≤ maxLen ∧ (st.length + 1) * 1 ≤ 140737488355328 from by have := HSL.out; simp only at this; unfold maxLen; omega)
            go_region_held3 (fun w' => w'.cell? ⟨b, o + k, none⟩ = some (.int .u8 (lv : Int)))
              (first | (with_reducible exact hSz) | (with_reducible exact hSy) | (exact hSy2 _) | (refine HKS.out _ ?_; go_grown; done))
              (first
                | (refine step_append_plus Tryz.prog (by rfl) (.tmp 50) (.tmp 51) 56 (by rfl) 5 i0 (.int .u8 0) 1 Tryz.underlying56 HII.out.1 HII.out.2.1 HII.out.2.2.1 HII.out.2.2.2 rfl W2.heap.size 0 0 [] (by rfl) HW1.out.drew po st.length co (opL st) (by rfl) (by rw [opL_len, Nat.mul_one]) HH.out.1 (HNO.out _ (by go_grown)) HONE.out HQ3.out.1 HQ3.out.2.1 st.length (Nat.zero_add _) ?_; intro g2 cap2 w3 hown3 hgrow3 hpos3; have hSy := hgrow3.cell (HKS.out _ (by go_grown)) (HBW.out _ (Nat.le_refl _)); have hb3 := (show Below W2.heap.size W2 _ from by go_grown).grown hgrow3 (by first | (simp; done) | (simp; omega)) (fun r e => by cases e; omega); have hSy2 := fun (o : Obj) => HKS.out _ (hb3.alloc hb3.size o))
                | (refine step_append_plus Tryz.prog (by rfl) (.tmp 50) (.tmp 51) 56 (by rfl) 5 i0 (.int .u8 0) 1 Tryz.underlying56 HII.out.1 HII.out.2.1 HII.out.2.2.1 HII.out.2.2.2 rfl W2.heap.size 0 0 [] (by rfl) ((HW1.out.alloc _).drew) po st.length co (opL st) (by rfl) (by rw [opL_len, Nat.mul_one]) HH.out.1 (HNO.out _ (by go_grown)) HONE.out HQ3.out.1 HQ3.out.2.1 st.length (Nat.zero_add _) ?_; intro g2 cap2 w3 hown3 hgrow3 hpos3; have hSy := hgrow3.cell (HKS.out _ (by go_grown)) (HBW.out _ (Nat.le_refl _)); have hb3 := (show Below W2.heap.size W2 _ from by go_grown).grown hgrow3 (by first | (simp; done) | (simp; omega)) (fun r e => by cases e; omega); have hSy2 := fun (o : Obj) => HKS.out _ (hb3.alloc hb3.size o))
                | (refine step_append_plus Tryz.prog (by rfl) (.tmp 50) (.tmp 51) 56 (by rfl) 5 i0 (.int .u8 0) 1 Tryz.underlying56 HII.out.1 HII.out.2.1 HII.out.2.2.1 HII.out.2.2.2 rfl (W2.heap.size + 1) 0 0 [] (by rfl) HW2.out.drew po st.length co (opL st) (by rfl) (by rw [opL_len, Nat.mul_one]) HH.out.1 (HNO.out _ (by go_grown)) HONE.out HQ3.out.1 HQ3.out.2.1 st.length (Nat.zero_add _) ?_; intro g2 cap2 w3 hown3 hgrow3 hpos3; have hSy := hgrow3.cell (HKS.out _ (by go_grown)) (HBW.out _ (Nat.le_succ _)); have hb3 := (show Below W2.heap.size W2 _ from by go_grown).grown hgrow3 (by first | (simp; done) | (simp; omega)) (fun r e => by cases e; omega); have hSy2 := fun (o : Obj) => HKS.out _ (hb3.alloc hb3.size o))
                | (refine step_append_plus Tryz.prog (by rfl) (.tmp 52) (.tmp 57) 56 (by rfl) 5 i0 (.int .u8 0) 1 Tryz.underlying56 HII.out.1 HII.out.2.1 HII.out.2.2.1 HII.out.2.2.2 rfl g2 st.length cap2 ([] ++ opL st) (by rfl) ((hown3.alloc _).drew) (some ⟨w3.heap.size, 0, none⟩) 1 1 [.int .u8 (lv : Int)] (by rfl) (by rfl) (fun h => by cases h) (fun ad h => by cases h; exact cell_one_new _ _ _) (by simp [Value.oneCell']) HQ3.out.2.2.1 HQ3.out.2.2.2 (st.length + 1) rfl ?_; intro g4 cap4 w5 hown5 hgrow5 hpos5; have hSz := hgrow5.cell (hSy2 _) (HBW.out _ (by rcases hpos3 with h | h <;> (try simp at h) <;> omega)))
                | (refine step_append_plus Tryz.prog (by rfl) (.tmp 52) (.tmp 57) 56 (by rfl) 5 i0 (.int .u8 0) 1 Tryz.underlying56 HII.out.1 HII.out.2.1 HII.out.2.2.1 HII.out.2.2.2 rfl g2 st.length cap2 ([] ++ opL st) (by rfl) hown3.drew (some ⟨W2.heap.size + 1, 0, none⟩) 1 1 [.int .u8 (lv : Int)] (by rfl) (by rfl) (fun h => by cases h) (fun ad h j u hu => by cases h; match j, hu with | 0, hu => (cases hu; exact hgrow3.cell HNW2.out (fun e => absurd (Option.some.inj e) (by show ¬ (W2.heap.size + 1 = W2.heap.size); omega)))) (by simp [Value.oneCell']) HQ3.out.2.2.1 HQ3.out.2.2.2 (st.length + 1) rfl ?_; intro g4 cap4 w5 hown5 hgrow5 hpos5; have hSz := hgrow5.cell hSy (HBW.out _ (by rcases hpos3 with h | h <;> (try simp at h) <;> omega)))
                | (refine step_append_plus Tryz.prog (by rfl) (.tmp 52) (.tmp 57) 56 (by rfl) 5 i0 (.int .u8 0) 1 Tryz.underlying56 HII.out.1 HII.out.2.1 HII.out.2.2.1 HII.out.2.2.2 rfl g2 st.length cap2 ([] ++ opL st) (by rfl) hown3.drew (some ⟨W2.heap.size, 0, none⟩) 1 1 [.int .u8 (lv : Int)] (by rfl) (by rfl) (fun h => by cases h) (fun ad h j u hu => by cases h; match j, hu with | 0, hu => (cases hu; exact hgrow3.cell HNW3.out (fun e => absurd (Option.some.inj e) (by show ¬ (W2.heap.size = W2.heap.size + 1); omega)))) (by simp [Value.oneCell']) HQ3.out.2.2.1 HQ3.out.2.2.2 (st.length + 1) rfl ?_; intro g4 cap4 w5 hown5 hgrow5 hpos5; have hSz := hgrow5.cell hSy (HBW.out _ (by rcases hpos3 with h | h <;> (try simp at h) <;> omega))))
            all_goals
              have hW2 : w.heap.size + 1 ≤ W2.heap.size := HT2.out.row.lt
              have hs3 := hb3.size
              have hg2 : W2.heap.size ≤ g2 := by rcases hpos3 with h | h <;> (try simp at h) <;> omega
              have hg4 : w.heap.size + 1 ≤ g4 := by rcases hpos5 with h | h <;> (try simp at h) <;> omega
              have HO5 := mhid (owns_liftT hown5 hg4)
              have hgg : ∀ r, some g2 = some r → W2.heap.size ≤ r := fun r e => by cases e; exact hg2
              have hb5 : Below W2.heap.size W2 w5 := by
                first
                  | exact hb3.grown hgrow5 hs3 hgg
                  | exact (hb3.alloc hs3 _).grown hgrow5 (by simp; omega) hgg
              have HB5 := mhid hb5
              clear hown5 hgrow5 hpos5 hb5 hSz hSy hSy2 hown3 hgrow3 hpos3 hb3 hs3 hg2 hg4 hW2
            all_goals go_wp2_with fail
            all_goals go_meet
            all_goals exact ⟨g4, cap4, rfl, HO5, HB5⟩
          case rest =>
            obtain ⟨g6, c6, rfl, HO6, HB6⟩ := hcut
            obtain ⟨W3, hW3⟩ : ∃ x, x = wc := ⟨_, rfl⟩
            rw [← hW3] at HO6 HB6 ⊢
            clear hW3
            obtain ⟨i1, hi, hz0, hz1, hz2⟩ := info_parts infotI
            have hlrow := owns_keepT HT2.out.lf HB6.out
            have HLN := mhid (show pl = none → st.length = 0 ∧ cl = 0 from HH.out.2.2.1)
            have HLW := mhid (show ∀ (W : World), Below W3.heap.size W3 W → ∀ ad, pl = some ad → ∀ (j : Nat) u, (lfL st)[j]? = some u → W.cell? (ad.add j) = some u from fun W hb ad ha j u hu => by
              obtain ⟨g, rfl⟩ := HH.out.2.2.2 ad ha
              subst ha
              have := owns_cellT hlrow hu
              rw [show (⟨g, 0, none⟩ : Addr).add j = ⟨g, j, none⟩ from by unfold Addr.add; split <;> simp [*]]
              exact (hb.cell (World.block_lt_of_cell? _ _ this)).trans this)
            have HL1 := mhid (show ∀ u ∈ lfL st, u.oneCell' = true from fun u hu => by
              unfold lfL at hu
              obtain ⟨e, _, rfl⟩ := List.mem_map.1 hu
              rfl)
            have hlq : st.length ≤ 100 := HSL.out
            have e1 := E1.out
            have hW3 : w.heap.size + 1 ≤ W3.heap.size := Nat.le_trans HT2.out.row.lt HB6.out.size
            have HW3 := mhid hW3
            clear hlrow hW3
            go_wp2_with (first
              | (at_builtin; refine wpList_app_copy _ (by rfl) (.tmp 59) (.tmp 60) 159 (by rfl) W3.heap.size 3 i1 _ 1 8 Tryz.underlying159 hi hz0 hz1 hz2 rfl (by decide) W3.heap.size 0 (by rfl) (World.ownsRow_made W3 #[] 0 (Nat.le_refl _) (Nat.zero_le _) (by simp)) pl st.length cl (lfL st) (by rfl) (by rw [lfL_len, Nat.mul_one]) HLN.out (HLW.out _ ((Below.refl _ _).alloc (Nat.le_refl _) _)) HL1.out (by unfold maxLen; omega) (by omega) (by simp) (Nat.le_refl _) ?_; intro g7 cap7 w7 hown7 hb7; have HB7 := mhid (((Below.refl _ W3).alloc (Nat.le_refl _) _).trans (hb7.mono (Nat.le_refl _))); clear hb7)
              | (at_builtin; refine wpList_append_own _ (by rfl) (.tmp 61) (.tmp 62) 159 (by rfl) W3.heap.size 3 i1 _ 1 8 Tryz.underlying159 hi hz0 hz1 hz2 rfl (by decide) (.slice (some ⟨g7, 0, none⟩) st.length cap7) st.length _ (by rfl) (hown7.alloc _) ⟨w7.heap.size, 0, none⟩ 1 1 [.int .i64 5] (by rfl) (by rfl) (cell_one_new _ _ _) (by simp [Value.oneCell']) (by unfold maxLen; omega) (by omega) (by have := HB7.out.size; simp; omega) ?_; intro v8 w8 hown8 hgrow8 hnil8))
            have hg7 := (owns_capT hown7).2.1
            have hb8 : Below W3.heap.size W3 w8 := (HB7.out.alloc HB7.out.size _).grown hgrow8 (by have := HB7.out.size; simp; omega) (fun r e => by cases e; exact hg7)
            have HTN := mhid (show TakeAt w8 (w.heap.size + 1) w.heap.size (.slice (some ⟨g6, 0, none⟩) (st.length + 1) c6) v8 ((lv, 5) :: st) (bump out lv) from ⟨HT2.out.row.below (HB6.out.trans (hb8.mono HB6.out.size)), by omega, by rw [opL_cons]; exact owns_keepT HO6.out hb8, by rw [lfL_cons]; exact owns_loT hown8 HW3.out⟩)
            have HBN8 := mhid (show Below w.heap.size w w8 from HB2.out.trans ((HB6.out.trans (hb8.mono HB6.out.size)).mono HB2.out.size))
            have hlt := HLT.out.1
            clear hown7 hown8 hgrow8 hnil8 hb8 hg7
            refine ⟨⟨k + 1, Tk.step pil ⟨c0, st, cnt, out⟩ lv, by omega, by go_num, ?_, HNX, HOX, HBN8⟩, by simp [intOf] <;> omega⟩
            rw [tk_take HTK.out]
            exact HTN
        · have HNT := mhid ht
          have e1 := E1.out
          have hor : ((lv : Int) ≤ 15 ∧ ¬ (lv : Int) > mk) ∨ ¬ (lv : Int) ≤ 15 := by
            by_cases h15 : (lv : Int) ≤ 15
            · refine .inl ⟨h15, fun h => ht ⟨by omega, ?_⟩⟩
              rw [← HMK.out]; exact h
            · exact .inr h15
          clear ht
          have HSTEP := mhid (tk_on (c0 := c0) (cnt := cnt) (out := out) HNT.out)
          cases st with
          | nil =>
            rcases hor with ⟨q1, q2⟩ | q1
            all_goals go_wp2_with fail
            all_goals refine ⟨⟨k + 1, Tk.step pil ⟨c0, [], cnt, out⟩ lv, by have := HLT.out; omega, by go_num, ?_, HNX, HOX, HB⟩, by simp [intOf] <;> omega⟩
            all_goals rw [HSTEP.out.1, HSTEP.out.2]
            all_goals exact HT
          | cons e r =>
            obtain ⟨l, k5⟩ := e
            obtain ⟨go, rfl⟩ : ∃ go, po = some ⟨go, 0, none⟩ := by
              cases po with
              | none => have := (HH.out.1 rfl).1; simp at this
              | some ad => obtain ⟨g, rfl⟩ := HH.out.2.1 ad rfl; exact ⟨g, rfl⟩
            obtain ⟨gl, rfl⟩ : ∃ gl, pl = some ⟨gl, 0, none⟩ := by
              cases pl with
              | none => have := (HH.out.2.2.1 rfl).1; simp at this
              | some ad => obtain ⟨g, rfl⟩ := HH.out.2.2.2 ad rfl; exact ⟨g, rfl⟩
            have hk5 : 1 ≤ k5 ∧ k5 ≤ 5 := HPOS.out (l, k5) (List.mem_cons_self ..)
            have hlast : wc.cell? ⟨gl, r.length, none⟩ = some (.int .i64 (k5 : Int)) := owns_cellT HT.out.lf (by rw [lfL_cons, List.getElem?_append_right (by rw [lfL_len]; exact Nat.le_refl _), lfL_len, Nat.sub_self]; rfl)
            have hfr : wc.frozen? ⟨gl, r.length, none⟩ = false := owns_frozenT HT.out.lf r.length
            have hls : r.length + 1 ≤ 100 := HSL.out
            obtain ⟨hcl, hgl, -⟩ := owns_capT HT.out.lf
            obtain ⟨hco, hgo, -⟩ := owns_capT HT.out.op
            have hql : ((l, k5) :: r : List (Nat × Nat)).length = r.length + 1 := rfl
            rw [hql] at hcl hco ⊢
            have hne : go ≠ gl := owns_apartT HT.out.op HT.out.lf (by decide)
            have HSET := mhid (fun (x : Int) => (show (wc.setCell ⟨gl, r.length, none⟩ (.int .i64 x)).ownsRow (w.heap.size + 1) 3 1 (.slice (some ⟨gl, 0, none⟩) (r.length + 1) cl) (r.length + 1) (lfL r ++ [.int .i64 x]) from by
              have := owns_setT HT.out.lf r.length (.int .i64 x)
              rw [lfL_cons, List.set_append_right _ _ (by rw [lfL_len]; exact Nat.le_refl _), lfL_len, Nat.sub_self] at this
              exact this))
            have HFAR := mhid (fun (x : Int) => (show (wc.setCell ⟨gl, r.length, none⟩ (.int .i64 x)).ownsRow (w.heap.size + 1) 5 1 (.slice (some ⟨go, 0, none⟩) (r.length + 1) co) (r.length + 1) (opL r ++ [.int .u8 (l : Int)]) from by
              have := owns_farT (j := r.length) (u := .int .i64 x) HT.out.op hne
              rw [opL_cons] at this
              exact this))
            have HROW := mhid (fun (x : Int) => HT.out.row.other (a := ⟨gl, r.length, none⟩) (show w.heap.size ≠ gl by omega) (.int .i64 x))
            have HBS := mhid (fun (x : Int) => HB.out.setCell (p := ⟨gl, r.length, none⟩) (show w.heap.size ≤ gl by omega) (.int .i64 x))
            have hne0 : ¬ ((r.length + 1 : Nat) : Int) = 0 := by omega
            have hq0 : ¬ (r.length : Int) < 0 := by omega
            have hq1 : (r.length : Int) < ((r.length + 1 : Nat) : Int) := by omega
            have hq2 : (r.length : Int) ≤ 99 := by omega
            have hq3 : (r.length : Int) ≤ (co : Int) := by omega
            have hq4 : (r.length : Int) ≤ (cl : Int) := by omega
            have hq5 : ¬ co = 0 := by omega
            have hq6 : ¬ cl = 0 := by omega
            have hl1 : IntKind.i64.wrap (r.length : Int) = (r.length : Int) := IntWalk.i64_in _ (by omega)
            have hl2 : IntKind.i64.wrap (((r.length + 1 : Nat) : Int) - 1) = (r.length : Int) := by rw [IntWalk.i64_in _ (by omega)]; omega
            have hlt := HLT.out.1
            clear hcl hco hgl hgo hne hql
            by_cases hk1 : k5 = 1
            · subst hk1
              have HTN := mhid (show TakeAt (wc.setCell ⟨gl, r.length, none⟩ (.int .i64 0)) (w.heap.size + 1) w.heap.size (.slice (some ⟨go, 0, none⟩) r.length co) (.slice (some ⟨gl, 0, none⟩) r.length cl) r out from ⟨HROW.out 0, by omega, by
                have := owns_preT (HFAR.out 0) (n2 := r.length) (by omega)
                rwa [List.take_left' (opL_len r)] at this, by
                have := owns_preT (HSET.out 0) (n2 := r.length) (by omega)
                rwa [List.take_left' (lfL_len r)] at this⟩)
              have HBN := mhid (HBS.out 0)
              have hc2 : (wc.setCell ⟨gl, r.length, none⟩ (.int .i64 0)).cell? ⟨gl, r.length, none⟩ = some (.int .i64 0) := owns_cellT (HSET.out 0) (by rw [List.getElem?_append_right (by rw [lfL_len]; exact Nat.le_refl _), lfL_len, Nat.sub_self]; rfl)
              have hw5 : IntKind.i64.wrap (1 - 1) = 0 := by decide
              clear HSET HFAR HROW HBS hk5 HT HB
              rcases hor with ⟨q1, q2⟩ | q1
              all_goals go_wp2_with fail
              all_goals refine ⟨⟨k + 1, Tk.step pil ⟨c0, (l, 1) :: r, cnt, out⟩ lv, by omega, by go_num, ?_, HNX, HOX, HBN⟩, by simp [intOf] <;> omega⟩
              all_goals rw [HSTEP.out.1, HSTEP.out.2, tkOn_one]
              all_goals exact HTN
            · obtain ⟨kk, rfl⟩ : ∃ kk, k5 = kk + 1 := ⟨k5 - 1, by omega⟩
              have HTN := mhid (show TakeAt (wc.setCell ⟨gl, r.length, none⟩ (.int .i64 (kk : Int))) (w.heap.size + 1) w.heap.size (.slice (some ⟨go, 0, none⟩) (r.length + 1) co) (.slice (some ⟨gl, 0, none⟩) (r.length + 1) cl) ((l, kk) :: r) out from ⟨HROW.out kk, by omega, by rw [opL_cons]; exact HFAR.out kk, by rw [lfL_cons]; exact HSET.out kk⟩)
              have HBN := mhid (HBS.out kk)
              have hc2 : (wc.setCell ⟨gl, r.length, none⟩ (.int .i64 (kk : Int))).cell? ⟨gl, r.length, none⟩ = some (.int .i64 (kk : Int)) := owns_cellT (HSET.out kk) (by rw [List.getElem?_append_right (by rw [lfL_len]; exact Nat.le_refl _), lfL_len, Nat.sub_self]; rfl)
              have hw5 : IntKind.i64.wrap (((kk + 1 : Nat) : Int) - 1) = (kk : Int) := by rw [IntWalk.i64_in _ (by omega)]; omega
              have hw6 : IntKind.i64.wrap (kk : Int) = (kk : Int) := IntWalk.i64_in _ (by omega)
              have hz : ¬ (kk : Int) = 0 := by omega
              have HKK := mhid hk1
              clear HSET HFAR HROW HBS hk5 HT HB hk1
              rcases hor with ⟨q1, q2⟩ | q1
              all_goals go_wp2_with fail
              all_goals refine ⟨⟨k + 1, Tk.step pil ⟨c0, (l, kk + 1) :: r, cnt, out⟩ lv, by omega, by go_num, ?_, HNX, HOX, HBN⟩, by simp [intOf] <;> omega⟩
              all_goals rw [HSTEP.out.1, HSTEP.out.2, tkOn_more l kk r HKK.out]
              all_goals exact HTN
    · obtain rfl : k = n := by omega
      have h1 : ¬ (k : Int) < (k : Int) := by omega
      go_wp2_with fail
      first
        | go_ret2
        | go_ret
      have hvs : vs.take k = vs := List.take_of_length_le (by have := HN.out; omega)
      have hs := HS.out
      rw [hvs] at hs
      refine ⟨w.heap.size, rfl, Nat.le_refl _, ?_, HB.out⟩
      rw [← hs]
      exact reads_row HT.out.row
end Go.Proofs.YtajholbcpmjhiaaGreatDoor
/- A list of instructions under way: each of its methods in one form. No new function of the program is walked here. -/
namespace Go.Proofs.YtajholbcpmjhiaaGreatDoor
open Go.RowKit
structure BsAt (W w : World) (pa : Nat) (S : Nat → Prop) (s : Bs) : Prop where
  lst : Lst W.heap.size w pa S s.L s.M
  tab : TabLo W.heap.size w
  bel : Below W.heap.size W w
def BsGo (W w : World) (pa : Nat) (S : Nat → Prop) (s : Bs) (w' : World) : Prop := ∃ S', BsAt W w' pa S' s ∧ Only S w w' ∧ ∀ k, S' k → S k ∨ w.heap.size ≤ k
section
variable {W w : World} {pa : Nat} {S : Nat → Prop} {s : Bs}
theorem BsAt.keepb (h : BsAt W w pa S s) {w' : World} (hb : Below w.heap.size w w') : BsAt W w' pa S s :=
  ⟨h.lst.keepb hb, h.tab.keepO (Only.of_below (S := fun _ => False) hb) (fun _ hk => hk.elim), h.bel.trans (hb.mono h.bel.size)⟩
theorem BsAt.step (h : BsAt W w pa S s) {s' : Bs} {w' : World} (hg : ∃ S', Lst W.heap.size w' pa S' s'.L s'.M ∧ Only S w w' ∧ ∀ k, S' k → S k ∨ w.heap.size ≤ k) : BsGo W w pa S s' w' := by
  obtain ⟨S', l', o', r'⟩ := hg
  have hb : Below W.heap.size W w' := h.bel.trans (o'.below h.bel.size (fun k hk hS => by have := (h.lst.lo k hS).1; omega))
  exact ⟨S', ⟨l', h.tab.keepO o' (fun k hk => (h.lst.lo k hk).1), hb⟩, o', r'⟩
theorem BsGo.same (h : BsAt W w pa S s) : BsGo W w pa S s w := ⟨S, h, Only.refl _ _, fun _ hk => .inl hk⟩
theorem BsGo.behind {w1 w4 : World} {s' : Bs} (hb : Below w.heap.size w w1) (hg : BsGo W w1 pa S s' w4) : BsGo W w pa S s' w4 := by
  obtain ⟨S', h', o', r'⟩ := hg
  exact ⟨S', h', (Only.of_below (S := S) hb).trans o', fun k hk => (r' k hk).imp id (fun h => Nat.le_trans hb.size h)⟩
theorem BsGo.then {w1 w2 : World} {S1 : Nat → Prop} {s' : Bs} (o1 : Only S w w1) (r1 : ∀ k, S1 k → S k ∨ w.heap.size ≤ k) (hg : BsGo W w1 pa S1 s' w2) : BsGo W w pa S s' w2 := by
  obtain ⟨S2, h2, o2, r2⟩ := hg
  refine ⟨S2, h2, o1.fresh o2 (fun i hi hk => ?_), fun k hk => ?_⟩
  · rcases r1 i hk with h | h
    · exact h
    · omega
  · rcases r2 k hk with h | h
    · exact r1 k h
    · exact .inr (Nat.le_trans o1.size h)
end
end Go.Proofs.YtajholbcpmjhiaaGreatDoor
/- Walks of the package tick: each, All. -/
namespace Go.Proofs.YtajholbcpmjhiaaGreatDoor
open Go.RowKit Go.Maps
theorem vcell_new (w : World) (v : Value) (t : TypeId) : (w.alloc (.cells #[v] t)).cell? ⟨w.heap.size, 0, none⟩ = some v := by
  rw [cell_of_obj (heap_alloc_new w (.cells #[v] t))]; rfl
theorem tick_lst (w0 : Nat) (w : World) (p : Nat) (S : Nat → Prop) (L : List It) (M : List (List UInt8 × Int)) (h : Lst w0 w p S L M) (hw : w0 ≤ w.heap.size) (ht : TabLo w0 w) (hL : L.length + 4 < 4294967296) (hM : M.length < maxLen) (k : Nat) (h1 : 1 ≤ k) (h2 : k ≤ 15) (hl : look M (tickNm k).data.toList = none) :
    Calls Tryz.prog 104 #[.pointer (some ⟨p, 0, none⟩), .int .i64 k] w fun e w' => e = .returned (.int .i64 0) ∧ ∃ S', Lst w0 w' p S' (L ++ tickT k) (M ++ [((tickNm k).data.toList, (L.length : Int))]) ∧ Only S w w' ∧ (∀ k, S' k → S k ∨ w.heap.size ≤ k) := by
  obtain ⟨sv, m, K, hA, hO, hK⟩ := h.ex
  refine (tick_new w ht.tab p m sv K L M hA hL hM k h1 h2 hl).mono ?_
  rintro e w' ⟨rfl, hst⟩
  exact ⟨rfl, h.to hw hO hK hst⟩
theorem all2_lst (w0 : Nat) (w : World) (cb p : Nat) (S : Nat → Prop) (L : List It) (M : List (List UInt8 × Int)) (h : Lst w0 w p S L M) (hw : w0 ≤ w.heap.size) (ht : TabLo w0 w) (hc : w.cell? ⟨cb, 0, none⟩ = some (.pointer (some ⟨p, 0, none⟩))) (hL : L.length + 4 < 4294967296) (hM : M.length < maxLen) (k : Nat) (h1 : 1 ≤ k) (h2 : k ≤ 15) (hl : look M (tickNm k).data.toList = none) :
    Calls Tryz.prog 155 #[.int .i64 k, .pointer (some ⟨cb, 0, none⟩)] w fun e w' => e = .returned (.int .i64 0) ∧ ∃ S', Lst w0 w' p S' (L ++ tickT k) (M ++ [((tickNm k).data.toList, (L.length : Int))]) ∧ Only S w w' ∧ (∀ k, S' k → S k ∨ w.heap.size ≤ k) := by
  have HT := ahid (tick_lst w0 w p S L M h hw ht hL hM k h1 h2 hl)
  clear h hw ht hL hM hl
  go_enter Tryz.func155, Tryz.ntmps155
  go_wp2_with fail
  refine HT.out.mono ?_
  rintro e w' ⟨rfl, hf⟩
  go_wp2_with fail
  go_ret
  exact ⟨rfl, hf⟩
def anyT (M : List (List UInt8 × Int)) : Bool := (List.range 15).any fun k => there M (k + 1)
def thereE (M : List (List UInt8 × Int)) : Int := if anyT M = true then 9 else 0
set_option maxRecDepth 100000 in
theorem each_there (w : World) (cb p m : Nat) (sv : Value) (K : Nat → Prop) (L : List It) (M : List (List UInt8 × Int)) (h : AsmAt w p sv m K L M) (hc : w.cell? ⟨cb, 0, none⟩ = some (.pointer (some ⟨p, 0, none⟩))) :
    Calls Tryz.prog 153 #[.func (.func 154) #[] #[.pointer (some ⟨cb, 0, none⟩)]] w fun e w' => e = .returned (.int .i64 (thereE M)) ∧ Below w.heap.size w w' := by
  have H := ahid h
  have HC := ahid hc
  clear h hc
  go_enter Tryz.func153, Tryz.ntmps153
  go_wp2_with fail
  go_loopw [5] (fun i wr => ∃ k : Nat, k ≤ 15 ∧ i = .int .i64 k ∧ (∀ j, j < k → there M (j + 1) = false) ∧ Below w.heap.size w wr) (fun i _ => 15 - (intOf i).toNat)
  case atStart => exact ⟨0, by omega, rfl, fun j hj => by omega, Below.refl _ _⟩
  case round =>
    obtain ⟨k, hk, rfl, hno, hb⟩ := hrel
    have HNO := ahid hno
    have HB := ahid hb
    clear hno hb
    by_cases hlt : k < 15
    · have e1 : IntKind.i64.wrap ((k : Int) + 1) = ((k + 1 : Nat) : Int) := by rw [IntWalk.i64_in _ (by omega)]; omega
      have h15 : (k : Int) < 15 := by omega
      have hcall := all1_any wr cb p m sv K L M (H.out.keep (Only.of_below (S := fun _ => False) HB.out) (fun _ _ h => h) (fun _ _ h => h)) ((HB.out.cell (p := ⟨cb, 0, none⟩) (World.block_lt_of_cell? _ _ HC.out)).trans HC.out) (k + 1) (by omega) (by omega)
      by_cases ht : there M (k + 1) = true
      · rw [if_pos ht] at hcall
        have HT := ahid ht
        have HCALL := ahid hcall
        clear hcall ht
        go_wp2_with fail
        refine HCALL.out.mono ?_
        rintro e w' ⟨rfl, n, rfl⟩
        go_wp2_with fail
        go_ret
        have ha : anyT M = true := List.any_eq_true.2 ⟨k, List.mem_range.2 hlt, HT.out⟩
        exact ⟨by rw [show thereE M = 9 from if_pos ha]; rfl, Go.below_drewN HB.out n⟩
      · rw [if_neg ht] at hcall
        have HT := ahid ht
        have HCALL := ahid hcall
        clear hcall ht
        go_wp2_with fail
        refine HCALL.out.mono ?_
        rintro e w' ⟨rfl, n, rfl⟩
        go_wp2_with fail
        refine ⟨⟨k + 1, by omega, by go_num, fun j hj => ?_, Go.below_drewN HB.out n⟩, by simp [intOf]; omega⟩
        rcases Nat.lt_succ_iff_lt_or_eq.1 hj with h | rfl
        · exact HNO.out j h
        · simpa using HT.out
    · obtain rfl : k = 15 := by omega
      go_wp2_with fail
      go_ret
      have ha : ¬ anyT M = true := fun h => by
        obtain ⟨j, hj, hj2⟩ := List.any_eq_true.1 h
        rw [HNO.out j (List.mem_range.1 hj)] at hj2; cases hj2
      exact ⟨by rw [show thereE M = 0 from if_neg ha]; rfl, HB.out⟩
theorem all_nil (w : World) : Calls Tryz.prog 106 #[.pointer none] w fun e w' => e = .returned (.int .i64 1) ∧ Below w.heap.size w w' := by
  go_enter Tryz.func106, Tryz.ntmps106
  go_wp2_with fail
  refine (acopy_none _ _ (anone_nil _)).mono ?_
  rintro e w' ⟨rfl, rfl⟩
  go_wp2_with fail
  go_ret
  exact ⟨rfl, (Below.refl _ _).alloc (Nat.le_refl _) _⟩
end Go.Proofs.YtajholbcpmjhiaaGreatDoor
