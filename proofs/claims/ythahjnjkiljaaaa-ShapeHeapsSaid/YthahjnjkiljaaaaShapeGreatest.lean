/- The walk of shape.greatest. -/
import Derived.Test.YthahjnjkiljaaaaShapeOneLaw
namespace Go.Proofs.Ythahjnjkiljaaaa
open Go.RowKit
set_option linter.unusedVariables false
set_option linter.unusedSimpArgs false
theorem ownsRow_below {w w' : World} {B size n : Nat} {e : TypeId} {v : Value} {xs : List Value} (h : w.ownsRow B e size v n xs) (hb : Below w.heap.size w w') : w'.ownsRow B e size v n xs := by
  refine ⟨h.1, ?_⟩
  rcases h.2 with h | ⟨g, cap, cur, h1, h2, h3, h4⟩
  · exact .inl h
  · exact .inr ⟨g, cap, cur, h1, h2, (hb.block g (lt_of_block h3)).trans h3, h4⟩
theorem own_cells {w : World} {B : Nat} {p : Option Addr} {n c : Nat} {l : List Int} (h : w.ownsRow B 3 1 (.slice p n c) n (ints l)) (hn : n = l.length) :
    ∃ g, (0 < l.length → p = some ⟨g, 0, none⟩) ∧ ∀ (k : Nat) (x : Int), l[k]? = some x → w.cell? ⟨g, k, none⟩ = some (.int .i64 x) := by
  subst hn
  rcases h.2 with ⟨h1, h0⟩ | ⟨g, cap, cur, h1, h2, h3, h4, h5, h6, h7⟩
  · have : l = [] := List.eq_nil_of_length_eq_zero h0
    subst this
    exact ⟨0, fun h => by simp at h, fun k x hx => by simp at hx⟩
  · cases h1
    refine ⟨g, fun _ => rfl, fun k x hx => ?_⟩
    have hk : k < l.length := by
      rcases Nat.lt_or_ge k l.length with h | h
      · exact h
      · rw [List.getElem?_eq_none h] at hx; cases hx
    rw [cell_of_obj h3]
    have e : (cur.toList.take (l.length * 1))[k]? = (ints l)[k]? := by rw [h7]
    rw [List.getElem?_take_of_lt (by omega)] at e
    rw [← Array.getElem?_toList, e]
    simp [ints, hx]
def greatN (l : List Int) (n : Int) : Int := l.foldl (fun n r => max n (min r 4096 + 1)) n
/-- The registers that an instruction names. -/
def regsOf (x : Insx) : List Int := if writesB x = true then readsS x ++ [writesD x] else readsS x
def insGreat (l : List Insx) (n : Int) : Int := l.foldl (fun n x => greatN (regsOf x) n) n
def greatestS (bs : List Blk) : Int := bs.foldl (fun n b => insGreat b.ins n) 0
theorem stake_get {α : Type} {l : List α} {k : Nat} {x : α} (h : l[k]? = some x) : l.take (k + 1) = l.take k ++ [x] := by
  obtain ⟨hk, hx⟩ := List.getElem?_eq_some_iff.1 h
  rw [List.take_succ_eq_append_getElem hk, hx]
theorem greatN_bd : ∀ (l : List Int) (n : Int), 0 ≤ n → n ≤ 4097 → (∀ y ∈ l, I64 y) → 0 ≤ greatN l n ∧ greatN l n ≤ 4097
  | [], n, h0, h1, _ => ⟨h0, h1⟩
  | y :: l, n, h0, h1, hl => greatN_bd l _ (show 0 ≤ max n (min y 4096 + 1) by omega) (show max n (min y 4096 + 1) ≤ 4097 by have := (hl y (by simp)).1; omega) (fun z hz => hl z (by simp [hz]))
theorem regsOf_bd {x : Insx} (hx : x.bd) : ∀ y ∈ regsOf x, I64 y := by
  unfold regsOf
  split
  · intro y hy
    rcases List.mem_append.1 hy with h | h
    · exact readsS_bd hx y h
    · rename_i hw
      simp only [List.mem_singleton] at h
      rw [h, show writesD x = x.d from if_pos hw]
      exact hx.2.1
  · exact readsS_bd hx
theorem insGreat_bd : ∀ (l : List Insx) (n : Int), 0 ≤ n → n ≤ 4097 → (∀ x ∈ l, x.bd) → 0 ≤ insGreat l n ∧ insGreat l n ≤ 4097
  | [], n, h0, h1, _ => ⟨h0, h1⟩
  | x :: l, n, h0, h1, hl => by
    have h := greatN_bd (regsOf x) n h0 h1 (regsOf_bd (hl x (by simp)))
    exact insGreat_bd l _ h.1 h.2 (fun z hz => hl z (by simp [hz]))
def blksBd (bs : List Blk) : Prop := ∀ b ∈ bs, ∀ x ∈ b.ins, x.bd
theorem greatest_go : ∀ (bs : List Blk) (n : Int), 0 ≤ n → n ≤ 4097 → blksBd bs → 0 ≤ bs.foldl (fun n b => insGreat b.ins n) n ∧ bs.foldl (fun n b => insGreat b.ins n) n ≤ 4097
  | [], n, h0, h1, _ => ⟨h0, h1⟩
  | b :: bs, n, h0, h1, hl => by
    have h := insGreat_bd b.ins n h0 h1 (hl b (by simp))
    exact greatest_go bs _ h.1 h.2 (fun z hz => hl z (by simp [hz]))
theorem greatest_bd {bs : List Blk} (h : blksBd bs) : 0 ≤ greatestS bs ∧ greatestS bs ≤ 4097 := greatest_go bs 0 (by omega) (by omega) h
theorem InsxIn.bds {w : World} {v : Value} {l : List Insx} (h : InsxIn w v l) : ∀ x ∈ l, x.bd := by
  intro x hx
  obtain ⟨k, hk⟩ := List.getElem?_of_mem hx
  obtain ⟨_, p, c, b, o, _, _, h4⟩ := h
  exact (h4 k x hk).bd
theorem BlksIn.bds {w : World} {v : Value} {l : List Blk} (h : BlksIn w v l) : blksBd l := by
  intro b hb
  obtain ⟨k, hk⟩ := List.getElem?_of_mem hb
  obtain ⟨_, p, c, g, o, _, _, h4⟩ := h
  obtain ⟨v, _, h⟩ := (h4 k b hk).c1
  exact h.bds
theorem blksBd_take {bs : List Blk} (h : blksBd bs) (k : Nat) : blksBd (bs.take k) := fun b hb => h b (List.mem_of_mem_take hb)
theorem InsxIn.argLen {w : World} {v : Value} {l : List Insx} (h : InsxIn w v l) : ∀ x ∈ l, x.args.length * 8 ≤ 140737488352000 := by
  intro x hx
  obtain ⟨k, hk⟩ := List.getElem?_of_mem hx
  obtain ⟨_, p, c, b, o, _, _, h4⟩ := h
  obtain ⟨v, _, h⟩ := (h4 k x hk).c6
  exact h.1
set_option maxRecDepth 100000 in
set_option maxHeartbeats 4000000 in
theorem greatest_any (nm : ByteArray) (fa fr : Int) (bs : List Blk) (pb : Option Addr) (cb : Nat) (w : World) (hB : BlksIn w (.slice pb bs.length cb) bs) :
    Calls Try.prog 37 #[.agg #[.string nm, .int .i64 fa, .int .i64 fr, .slice pb bs.length cb]] w fun e w' => e = .returned (.int .i64 (greatestS bs)) ∧ Below w.heap.size w w' := by
  have HBD := shid hB.bds
  obtain ⟨pbb, cbb, b, o, hbe, hbl, HBS⟩ := hB.hids
  cases hbe
  have HKB := shid (fun (W : World) (hb : Below w.heap.size w W) (k : Nat) (x : Blk) (hk : bs[k]? = some x) => (HBS.out.2 k x hk).keep hb)
  have HPB := shid HBS.out.1
  clear hB HBS
  have HW0 := shid (al1 w (.cells #[.string nm, .int .i64 fa, .int .i64 fr, .slice pb bs.length cb] 37))
  go_enter Try.func37, Try.ntmps37
  go_wp2_with fail
  generalize w.alloc (.cells #[.string nm, .int .i64 fa, .int .i64 fr, .slice pb bs.length cb] 37) = W0 at *
  go_loopw [3, 16] (fun n i wr => ∃ k : Nat, k ≤ bs.length ∧ i = .int .i64 k ∧ n = .int .i64 (greatestS (bs.take k)) ∧ Below w.heap.size w wr) (fun _ i _ => bs.length - (intOf i).toNat)
  case atStart => exact ⟨0, Nat.zero_le _, rfl, rfl, HW0.out⟩
  case round =>
    obtain ⟨k, hk, rfl, rfl, hbw⟩ := hrel
    have HBW := shid hbw
    clear hbw HW0
    by_cases hlt : k < bs.length
    · obtain rfl := HPB.out (by omega)
      have HX := shid (List.getElem?_eq_getElem hlt)
      generalize bs[k] = x at HX
      have HTK := shid (stake_get HX.out)
      have HGB := shid (greatest_bd (blksBd_take HBD.out k))
      have hxat := HKB.out wr HBW.out k x HX.out
      obtain ⟨c0, ⟨vi, c1, hvi⟩, _⟩ := hxat
      have HVB := shid hvi.bds
      have HAL := shid hvi.argLen
      obtain ⟨pi, ci, ib, io, rfl, hil, HIS⟩ := hvi.hids
      have HKI := shid (fun (W : World) (hb : Below wr.heap.size wr W) (j : Nat) (y : Insx) (hj : x.ins[j]? = some y) => (HIS.out.2 j y hj).keep hb)
      have HPI := shid HIS.out.1
      clear hvi HIS
      have h1 : (k : Int) < bs.length := by omega
      have HG0 := shid (show greatestS (bs.take (k + 1)) = insGreat x.ins (greatestS (bs.take k)) by rw [HTK.out]; simp [greatestS])
      generalize greatestS (bs.take k) = n0 at HGB HG0 ⊢
      have HWR := shid (al1 wr (.cells #[.string x.name, .slice pi x.ins.length ci] 40))
      go_wp2_with fail
      generalize wr.alloc (.cells #[.string x.name, .slice pi x.ins.length ci] 40) = W1 at *
      have HB0 := shid (sbt HBW.out HWR.out)
      have HKJ := shid (fun (W : World) (hb : Below W1.heap.size W1 W) => HKI.out W (sbt HWR.out hb))
      clear HKI HWR HBW c0 c1
      go_loopw [3, 23] (fun n i w2 => ∃ j : Nat, j ≤ x.ins.length ∧ i = .int .i64 j ∧ n = .int .i64 (insGreat (x.ins.take j) n0) ∧ Below W1.heap.size W1 w2) (fun _ i _ => x.ins.length - (intOf i).toNat)
      case atStart => exact ⟨0, Nat.zero_le _, rfl, rfl, Below.refl _ _⟩
      case round =>
        obtain ⟨j, hj, rfl, rfl, hb2⟩ := hrel
        have HB2 := shid hb2
        clear hb2
        by_cases hltj : j < x.ins.length
        · obtain rfl := HPI.out (by omega)
          have HY := shid (List.getElem?_eq_getElem hltj)
          have HYM := shid (List.getElem_mem hltj)
          generalize x.ins[j] = y at HY HYM
          have HTJ := shid (stake_get HY.out)
          have hyat := HKJ.out _ HB2.out j y HY.out
          obtain ⟨d0, d1, d2, d3, d4, d5, ⟨va, d6, hva⟩, d7, d8, hybd⟩ := hyat
          have HYB := shid hybd
          obtain ⟨pa, ca, rfl⟩ := hva.shape
          have HVA := shid hva
          have HAY := shid (HAL.out y HYM.out)
          have HG1 := shid (insGreat_bd (x.ins.take j) n0 HGB.out.1 HGB.out.2 (fun z hz => HVB.out z (List.mem_of_mem_take hz)))
          have HG2 := shid (show insGreat (x.ins.take (j + 1)) n0 = greatN (regsOf y) (insGreat (x.ins.take j) n0) by rw [HTJ.out]; simp [insGreat])
          generalize insGreat (x.ins.take j) n0 = n1 at HG1 HG2 ⊢
          clear hybd hva
          have h2 : (j : Int) < x.ins.length := by omega
          have HBX := shid (IBox.new wr y (.slice pa y.args.length ca) 44)
          have HW2 := shid (al1 wr (.cells #[.int .u8 y.op, .int .i64 y.d, .int .i64 y.a, .int .i64 y.b, .int .u32 y.n, .int .i64 y.f, .slice pa y.args.length ca, .int .i64 y.l1, .int .i64 y.l2] 44))
          go_wp2_with fail
          generalize wr.alloc (.cells #[.int .u8 y.op, .int .i64 y.d, .int .i64 y.a, .int .i64 y.b, .int .u32 y.n, .int .i64 y.f, .slice pa y.args.length ca, .int .i64 y.l1, .int .i64 y.l2] 44) = W2 at *
          refine (reads_any y HYB.out pa y.args.length ca W2 (IntsIn.keep HVA.out HW2.out)).mono ?_
          rintro e W3 ⟨v3, rfl, ho3, hb3⟩
          have hz3 := hb3.size
          have HO3 := shid ho3
          have HB3 := shid hb3
          have HBX3 := shid (HBX.out.keep hb3)
          obtain ⟨p3, c3, rfl, hs3⟩ := own_shape ho3
          have HS3 := shid hs3
          clear ho3 hb3 hs3 d0 d1 d2 d3 d4 d5 d6 d7 d8 HBX
          obtain ⟨_, x0, x1, x2, x3, x4, x5, x6, x7, x8⟩ := HBX3.out
          go_wp2_with fail
          clear x0 x1 x2 x3 x4 x5 x6 x7 x8
          refine (writes_any y HYB.out pa y.args.length ca W3).mono ?_
          rintro e W4 ⟨rfl, hb4⟩
          have HB4 := shid (sbt HB3.out hb4)
          have HO4 : Hid (W4.ownsRow W2.heap.size 3 1 (.slice p3 (readsS y).length c3) (readsS y).length (ints (readsS y))) := shid (ownsRow_below HO3.out hb4)
          have hz4 := HB4.out.size
          have hlr := readsS_len HAY.out
          cases hwb : writesB y
          case false =>
            have hrs : regsOf y = readsS y := by unfold regsOf; rw [hwb]; rfl
            have HRB := shid (regsOf_bd HYB.out)
            have HRL := shid (show (regsOf y).length = (readsS y).length by rw [hrs])
            obtain ⟨g5, hp5, hc5⟩ := own_cells HO4.out rfl
            rw [← hrs] at hp5 hc5
            have HP5 := shid hp5
            have HC5 := shid hc5
            have HB5 := shid (sbt HB2.out (sbt HW2.out HB4.out))
            clear hwb hrs hp5 hc5
            go_wp2_with fail
            go_loop [3, 41] (fun n i => ∃ q : Nat, q ≤ (regsOf y).length ∧ i = .int .i64 q ∧ n = .int .i64 (greatN ((regsOf y).take q) n1)) (fun _ i => (regsOf y).length - (intOf i).toNat)
            case atStart => exact ⟨0, Nat.zero_le _, rfl, rfl⟩
            case round =>
              obtain ⟨q, hq, rfl, rfl⟩ := hrel
              by_cases hltq : q < (regsOf y).length
              · obtain rfl := HP5.out (by omega)
                have HZ := shid (List.getElem?_eq_getElem hltq)
                have HZM := shid (HRB.out _ (List.getElem_mem hltq))
                generalize (regsOf y)[q] = z at HZ HZM
                have e0 := HC5.out q z HZ.out
                have HG4 := shid (greatN_bd ((regsOf y).take q) n1 HG1.out.1 HG1.out.2 (fun u hu => HRB.out u (List.mem_of_mem_take hu)))
                have HG3 := shid (show greatN ((regsOf y).take (q + 1)) n1 = max (greatN ((regsOf y).take q) n1) (min z 4096 + 1) by rw [stake_get HZ.out]; simp [greatN])
                generalize greatN ((regsOf y).take q) n1 = n2 at HG4 HG3 ⊢
                have hz1 := HZM.out.1
                have hz2 := HZM.out.2
                have hg1 := HG4.out.1
                have hg2 := HG4.out.2
                rw [HRL.out] at hltq hq
                have h3 : (q : Int) < (readsS y).length := by omega
                go_wp2_with fail
                all_goals
                  go_round
                  case rel => exact ⟨q + 1, by rw [HRL.out]; omega, by go_num, congrArg (Value.int .i64) (by rw [HG3.out]; omega)⟩
                  case measure => have := HRL.out; simp [intOf]; omega
              · have HG3 := shid (show greatN ((regsOf y).take q) n1 = insGreat (x.ins.take (j + 1)) n0 by rw [HG2.out, List.take_of_length_le (by omega)])
                have hge : ¬ q < (readsS y).length := by rw [← HRL.out]; exact hltq
                rw [HG3.out]
                clear hltq hq HC5 HP5
                go_wp2_with fail
                go_roundw
                case rel => exact ⟨j + 1, by omega, by go_num, rfl, HB5.out⟩
                case measure => simp [intOf]; omega
          case true =>
            have hrs : regsOf y = readsS y ++ [writesD y] := by unfold regsOf; rw [hwb]; rfl
            have HRB := shid (regsOf_bd HYB.out)
            have hwd : I64 (writesD y) := HRB.out _ (by rw [hrs]; simp)
            have hrb : (regsOf y).length * 8 ≤ 140737488352008 := by rw [hrs]; simp; omega
            have HRS := shid hrs
            clear hwb hrs
            go_wp2_with (at_builtin; refine wpList_append_ints rfl _ _ rfl W2.heap.size _ (readsS y) rfl (HO4.out.alloc _) _ [writesD y] rfl (IntsIn.one _ _ 3 _ hwd (cell_of_obj (heap_alloc_new W4 _))) (by simp; omega) (by simp; omega) ?_; rw [← HRS.out]; intro v' w5 hown hgrow)
            have HB5 := shid (sbt HB2.out (sbt HW2.out (grown_below (HB4.out.alloc hz4 _) hgrow (by intro kk hkk; exact (HS3.out kk hkk).1) (by simp; omega))))
            obtain ⟨p5, c5, rfl, _⟩ := own_shape hown
            obtain ⟨g5, hp5, hc5⟩ := own_cells hown rfl
            have HP5 := shid hp5
            have HC5 := shid hc5
            clear hown hgrow hp5 hc5
            go_simp
            go_wp2_with fail
            go_loop [3, 41] (fun n i => ∃ q : Nat, q ≤ (regsOf y).length ∧ i = .int .i64 q ∧ n = .int .i64 (greatN ((regsOf y).take q) n1)) (fun _ i => (regsOf y).length - (intOf i).toNat)
            case atStart => exact ⟨0, Nat.zero_le _, rfl, rfl⟩
            case round =>
              obtain ⟨q, hq, rfl, rfl⟩ := hrel
              by_cases hltq : q < (regsOf y).length
              · obtain rfl := HP5.out (by omega)
                have HZ := shid (List.getElem?_eq_getElem hltq)
                have HZM := shid (HRB.out _ (List.getElem_mem hltq))
                generalize (regsOf y)[q] = z at HZ HZM
                have e0 := HC5.out q z HZ.out
                have HG4 := shid (greatN_bd ((regsOf y).take q) n1 HG1.out.1 HG1.out.2 (fun u hu => HRB.out u (List.mem_of_mem_take hu)))
                have HG3 := shid (show greatN ((regsOf y).take (q + 1)) n1 = max (greatN ((regsOf y).take q) n1) (min z 4096 + 1) by rw [stake_get HZ.out]; simp [greatN])
                generalize greatN ((regsOf y).take q) n1 = n2 at HG4 HG3 ⊢
                have hz1 := HZM.out.1
                have hz2 := HZM.out.2
                have hg1 := HG4.out.1
                have hg2 := HG4.out.2
                have h3 : (q : Int) < (regsOf y).length := by omega
                go_wp2_with fail
                all_goals
                  go_round
                  case rel => exact ⟨q + 1, by omega, by go_num, congrArg (Value.int .i64) (by rw [HG3.out]; omega)⟩
                  case measure => simp [intOf]; omega
              · have HG3 := shid (show greatN ((regsOf y).take q) n1 = insGreat (x.ins.take (j + 1)) n0 by rw [HG2.out, List.take_of_length_le (by omega)])
                rw [HG3.out]
                clear HC5 HP5
                go_wp2_with fail
                go_roundw
                case rel => exact ⟨j + 1, by omega, by go_num, rfl, HB5.out⟩
                case measure => simp [intOf]; omega
        · have HG3 := shid (show insGreat (x.ins.take j) n0 = greatestS (bs.take (k + 1)) by rw [HG0.out, List.take_of_length_le (by omega)])
          have HB3 := shid (sbt HB0.out HB2.out)
          rw [HG3.out]
          go_wp2_with fail
          go_roundw
          case rel => exact ⟨k + 1, by omega, by go_num, rfl, HB3.out⟩
          case measure => simp [intOf]; omega
    · have HG3 := shid (show greatestS (bs.take k) = greatestS bs by rw [List.take_of_length_le (by omega)])
      rw [HG3.out]
      go_wp2_with fail
      go_ret
      exact ⟨rfl, HBW.out⟩
end Go.Proofs.Ythahjnjkiljaaaa
