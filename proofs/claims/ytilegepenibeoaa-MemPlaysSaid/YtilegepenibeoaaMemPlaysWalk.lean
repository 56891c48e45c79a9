/- The walk of muntinlaw05.MemPlays: whatever is done. -/
import Derived.Test.YtilegepenibeoaaMemActs
import Derived.Test.YtilegepenibeoaaMemBox
import Derived.Test.YtilegepenibeoaaMemKeepsLaw
import Derived.Test.YtilegepenibeoaaMemRefRow
namespace Go.Proofs.Ytilegepenibeoaa
open Go.RowKit
set_option linter.unusedVariables false
set_option linter.unusedSimpArgs false
/-- The state at the loop's head. -/
structure PlaysAt (w : World) (N : Nat) (v5 v7 : Value) (wr : World) : Prop where
  ex : ∃ m g gr cap d, v5 = .pointer (some ⟨m, 0, none⟩) ∧ v7 = .slice (some ⟨gr, 0, none⟩) N cap ∧ d.length = N ∧ MemAt wr m g d ∧ RefAt wr w.heap.size gr cap d ∧ w.heap.size ≤ m ∧ w.heap.size ≤ g
  below : Below w.heap.size w wr
set_option maxRecDepth 100000 in
set_option maxHeartbeats 4000000 in
theorem plays_not (a0 : Int) (p : Option Addr) (n c : Nat) (w : World) (h : a0 < 0 ∨ 4194304 < a0 ∨ a0 % 4 ≠ 0) :
    Calls Try.prog 3 #[.int .i64 a0, .slice p n c] w fun e w' => e = .returned (.bool true) ∧ Below w.heap.size w w' := by
  have h1 := mhid (new_err a0 w h)
  have h2 := mhid (rmay_any a0 w)
  have E := mhid (show decide (0 ≤ a0 ∧ a0 ≤ 4194304 ∧ a0 % 4 = 0) = false from decide_eq_false (by omega))
  have h3 := mhid (mhead_any w)
  clear h
  go_enter Try.func3, Try.ntmps3
  go_wp2_with fail
  refine h1.out.mono ?_
  rintro e w' ⟨rfl, rfl⟩
  go_wp2_with fail
  refine h2.out.mono ?_
  rw [E.out]
  rintro e w' ⟨rfl, rfl⟩
  go_wp2_with fail
  refine h3.out.mono ?_
  rintro e w' ⟨rfl, hb⟩
  have HB := mhid hb
  clear hb
  go_wp2_with fail
  go_ret
  exact ⟨rfl, HB.out⟩
set_option maxRecDepth 100000 in
set_option maxHeartbeats 4000000 in
theorem plays_big (N : Nat) (p : Option Addr) (n c : Nat) (w : World) (h : N ≤ 4194304) (h4 : N % 4 = 0) (hb : 200 < N) :
    Calls Try.prog 3 #[.int .i64 N, .slice p n c] w fun e w' => e = .returned (.bool true) ∧ Below w.heap.size w w' := by
  have h1 := mhid (new_ok N w h h4)
  have E := mhid (show decide (0 ≤ (N : Int) ∧ (N : Int) ≤ 4194304 ∧ (N : Int) % 4 = 0) = true from decide_eq_true (by omega))
  go_enter Try.func3, Try.ntmps3
  go_wp2_with fail
  refine h1.out.mono ?_
  rintro e w1 ⟨m, g, rfl, hm, hg, H, B⟩
  have h2 := mhid (rmay_any N w1)
  have h3 := mhid (size_any w1 m g _ H)
  have h5 := mhid (mhead_any w1)
  have h6 := mhid (show (List.replicate N (0 : Int)).length = N from List.length_replicate)
  have BB := mhid B
  clear H B hm hg
  go_wp2_with fail
  refine h2.out.mono ?_
  rw [E.out]
  rintro e w' ⟨rfl, rfl⟩
  go_wp2_with fail
  refine h3.out.mono ?_
  rw [h6.out]
  rintro e w' ⟨rfl, rfl⟩
  go_wp2_with fail
  refine h5.out.mono ?_
  rintro e w2 ⟨rfl, hb2⟩
  have HB := mhid hb2
  clear hb2
  go_wp2_with fail
  go_ret
  exact ⟨rfl, mbt BB.out HB.out⟩
set_option maxRecDepth 100000 in
set_option maxHeartbeats 4000000 in
theorem plays_small (N : Nat) (p : Option Addr) (n c : Nat) (w : World) (h : N ≤ 200) (h4 : N % 4 = 0) (hn : n ≤ maxLen) (hacts : ActsIn w p n) :
    Calls Try.prog 3 #[.int .i64 N, .slice p n c] w fun e w' => e = .returned (.bool true) ∧ Below w.heap.size w w' := by
  have h1 := mhid (new_ok N w (by omega) h4)
  have HA := mhid hacts
  have E := mhid (show decide (0 ≤ (N : Int) ∧ (N : Int) ≤ 4194304 ∧ (N : Int) % 4 = 0) = true from decide_eq_true (by omega))
  unfold maxLen at hn
  clear hacts
  obtain ⟨i0, hi, hz0, hz1, hz2⟩ := info_parts info8
  have hq2 : i0.bytes * N ≤ 281474976710656 := by rw [hz2]; omega
  have hq3 : N ≤ maxLen := by unfold maxLen; omega
  go_enter Try.func3, Try.ntmps3
  go_wp2_with fail
  refine h1.out.mono ?_
  rintro e w1 ⟨m, g, rfl, hm, hg, H, B⟩
  have h2 := mhid (rmay_any N w1)
  have K := mhid (And.intro H (And.intro B (And.intro hm hg)))
  clear H B hm hg h1
  go_wp2_with fail
  refine h2.out.mono ?_
  rw [E.out]
  rintro e w' ⟨rfl, rfl⟩
  clear h2
  go_wp2_with (at_make; refine wpList_make_full _ rfl _ _ 30 rfl w1.heap.size 5 i0 (.int .u8 0) 1 Try.underlying30 hi hz0 hz1 .i64 .i64 N N N rfl rfl rfl rfl hq2 hq3 (Nat.le_refl _) ?_; intro w2 hown hgrow)
  have hr : (madeCells (Value.int .u8 0).cells (N * 1)).toList = u8s (List.replicate N 0) := by
    rw [Nat.mul_one]; unfold u8s; rw [List.map_replicate]; exact toList_madeCells_one _ N
  rw [hr] at hown
  have hb2 : Below w1.heap.size w1 w2 := (Below.refl _ w1).grown hgrow (Nat.le_refl _) (fun k e => by cases e)
  have hP : PlaysAt w N (.pointer (some ⟨m, 0, none⟩)) (.slice (some ⟨w1.heap.size, 0, none⟩) N N) w2 := by
    refine ⟨⟨m, g, w1.heap.size, N, List.replicate N 0, rfl, rfl, List.length_replicate, K.out.1.keep (Only.of_below (S := fun _ => False) hb2) id id, ?_, K.out.2.2⟩, mbt K.out.2.1 hb2⟩
    refine RefAt.base (B := w1.heap.size) ⟨?_, Bytes.zeros N, by simp; omega⟩ K.out.2.1.size
    rw [List.length_replicate]; exact hown
  have HP := mhid hP
  clear hP hb2 hr hown hgrow K
  go_wp2_with fail
  go_loopw [5, 7, 8] (fun v5 v7 i wr => ∃ k : Nat, k ≤ n ∧ k ≤ 30 ∧ i = .int .i64 k ∧ PlaysAt w N v5 v7 wr) (fun _ _ i _ => 30 - (intOf i).toNat)
  case atStart => exact ⟨0, Nat.zero_le _, by omega, rfl, HP.out⟩
  case round =>
    obtain ⟨k, hk, hk30, rfl, ⟨m, g, gr, cap, d, rfl, rfl, hdl, hmem, href, hm, hg⟩, hbl⟩ := hrel
    by_cases hlt : k < n ∧ k < 30
    · obtain ⟨hlt, hlt30⟩ := hlt
      obtain ⟨b, o, rfl, hact⟩ := HA.out (by omega)
      obtain ⟨what, addr, many, wv, v, l, hact⟩ := hact k hlt
      obtain ⟨_, pl, cl, rfl, _⟩ := hact.row
      replace hact := hact.keep hbl
      have hkn : (k : Int) < n := by omega
      have hk3 : (k : Int) < 30 := by omega
      have c0 := hact.c0
      have c1 := hact.c1
      have c2 := hact.c2
      have c3 := hact.c3
      have c4 := hact.c4
      have hbw : Below wr.heap.size wr (wr.alloc (.cells #[.int .u8 what, .int .u32 addr, .int .i64 many, .int .u32 wv, .slice pl l.length cl] 34)) := (Below.refl _ _).alloc (Nat.le_refl _) _
      have hact2 := hact.keep hbw
      have hb1 := hact.b1
      have hb2 := hact.b2
      have hb3 := hact.b3
      have hb0 := hact.b0
      have hX : ActAt (wr.alloc (.cells #[.int .u8 what, .int .u32 addr, .int .i64 many, .int .u32 wv, .slice pl l.length cl] 34)) wr.heap.size 0 what addr many wv (.slice pl l.length cl) l := ⟨by simp, by simp, by simp, by simp, by simp, hact.b0, hact.b1, hact.b2, hact.b3, hact.len, hact2.row⟩
      have KK := mhid (And.intro (hmem.keep (Only.of_below (S := fun _ => False) hbw) id id) (And.intro (href.keep (Only.of_below (S := fun _ => False) hbw) id) (And.intro (mbt hbl hbw) (And.intro hm hg))))
      have hlt2 := hmem.lt
      have hlt3 := href.lt
      have hsz : wr.heap.size < (wr.alloc (.cells #[.int .u8 what, .int .u32 addr, .int .i64 many, .int .u32 wv, .slice pl l.length cl] 34)).heap.size := by simp
      have HX := mhid hX
      clear hact hmem href hbl hact2 hbw hX
      by_cases h60 : 60 < l.length
      · go_wp2_with fail
        generalize wr.alloc (.cells #[.int .u8 what, .int .u32 addr, .int .i64 many, .int .u32 wv, .slice pl l.length cl] 34) = wx at KK HX ⊢
        refine (mhead_any wx).mono ?_
        rintro e w9 ⟨rfl, hb9⟩
        have HB := mhid hb9
        clear hb9
        go_wp2_with fail
        go_ret
        exact ⟨rfl, mbt KK.out.2.2.1 HB.out⟩
      · go_wp2_with fail
        generalize hwx : wr.alloc (.cells #[.int .u8 what, .int .u32 addr, .int .i64 many, .int .u32 wv, .slice pl l.length cl] 34) = wx at KK HX hsz ⊢
        clear hwx
        have hrow := mhid HX.out.row
        have X0 : BoxAt wx wr.heap.size addr many wv := ⟨by simpa using HX.out.c1, by simpa using HX.out.c2, by simpa using HX.out.c3⟩
        have cw : wx.cell? ⟨wr.heap.size, 0, none⟩ = some (.int .u8 what) := HX.out.c0
        have cv : wx.cell? ⟨wr.heap.size, 4, none⟩ = some (.slice pl l.length cl) := by simpa using HX.out.c4
        have hll := HX.out.len
        clear c0 c1 c2 c3 c4 HX
        generalize wr.heap.size = bx at X0 cw cv hsz hlt2 hlt3 ⊢
        have hmg : m < wx.heap.size ∧ g < wx.heap.size ∧ gr < wx.heap.size := by omega
        clear hlt2 hlt3
        refine (copy_any wx m g d KK.out.1).mono ?_
        rintro e w3 ⟨m2, g2, rfl, hm2, hg2, H2, B2⟩
        have hg2lt := H2.lt
        have hmne := H2.ne
        have X3 := X0.keep (Only.of_below (S := fun _ => False) B2) id
        have cw3 := (keepm B2 hsz cw : w3.cell? _ = _)
        have cv3 := (keepm B2 hsz cv : w3.cell? _ = _)
        have hsz3 := B2.size
        have R3 := mhid (hrow.out.keepf B2)
        have F3 := mhid (And.intro H2 (And.intro (KK.out.1.keep (Only.of_below (S := fun _ => False) B2) id id) (And.intro (KK.out.2.1.keep (Only.of_below (S := fun _ => False) B2) id) (mbt KK.out.2.2.1 B2))))
        have RF := mhid (hrow.out.far (S := (· = g2)) B2 (fun k hk => hk ▸ hg2))
        have c1 := X3.c1
        have c2 := X3.c2
        have c3 := X3.c3
        have X3 := mhid X3
        clear H2 B2 KK cw cv X0 hrow
        have hwh : what % 3 = 0 ∨ what % 3 = 1 ∨ what % 3 = 2 := by omega
        rcases hwh with hwq | hwq | hwq
        · have hst := rstore_any w3 w.heap.size gr cap d F3.out.2.2.1 addr many hb1.1 hb1.2 wv hb3.1 hb3.2
          rw [hdl] at hst
          have HT := mhid hst
          clear hst
          go_wp2_with fail
          refine HT.out.mono ?_
          rintro e w4 ⟨gr2, cap2, rfl, href2, B4, hgg⟩
          have hsz4 := B4.size
          have hme := F3.out.1.keep (Only.of_below (S := fun _ => False) B4) id id
          have X4 := X3.out.keep (Only.of_below (S := fun _ => False) B4) id
          have F4 := mhid (And.intro hme (And.intro (F3.out.2.1.keep (Only.of_below (S := fun _ => False) B4) id id) (And.intro (F3.out.2.2.1.keep (Only.of_below (S := fun _ => False) B4) id) (And.intro (mbt F3.out.2.2.2 B4) href2))))
          have hst := store_any w4 m2 g2 d hme addr many hb1.1 hb1.2 wv hb3.1 hb3.2
          rw [show Stores m2 g2 d addr many wv w4 = fun e w' => e = .returned (.int .i64 (spanE N addr 1 many)) ∧ MemAt w' m2 g2 (storeV d addr many wv) ∧ Only (· = g2) w4 w' ∧ w'.heap.size = w4.heap.size from by unfold Stores; rw [hdl]] at hst
          have hd2 : (storeV d addr many wv).length = N := by unfold storeV; split <;> simp [storeS_len, hdl]
          generalize storeV d addr many wv = d2 at hst F4 hd2
          generalize spanE N addr 1 many = er at hst ⊢
          have HT := mhid hst
          have c1 := X4.c1
          have c2 := X4.c2
          have c3 := X4.c3
          have X4 := mhid X4
          clear hst hme href2 B4 F3 cw3 cv3 R3 RF
          go_wp2_with fail
          refine HT.out.mono ?_
          rintro e w5 ⟨rfl, H5, O5, hsz5⟩
          have G := mhid (And.intro H5 (And.intro (F4.out.2.1.keep O5 (by omega) (by omega)) (And.intro (F4.out.2.2.2.2.keep O5 (by omega)) (And.intro (F4.out.2.2.1.keep O5 (by omega)) (mbo F4.out.2.2.2.1 O5 (by have := F4.out.2.2.2.1.size; omega))))))
          have X5 := X4.out.keep O5 (by omega)
          clear H5 O5 F4 X4
          have c1 := X5.c1
          have c2 := X5.c2
          have hl1 := load_any w5 m2 g2 d2 G.out.1 addr many hb1.1 hb1.2
          have hl2 := rload_any w5 w.heap.size gr2 cap2 d2 G.out.2.2.1 addr many hb1.1 hb1.2
          have hs1 := same_mem w5 m2 g2 w.heap.size gr2 cap2 d2 G.out.1 G.out.2.2.1
          have hs2 := same_mem w5 m g w.heap.size gr cap d G.out.2.1 G.out.2.2.2.1
          rw [hd2] at hl1 hl2 hs1
          rw [hdl] at hs2
          generalize loadV d2 addr many = x1 at hl1 hl2
          generalize spanE N addr 1 many = x2 at hl1 hl2
          have L1 := mhid hl1
          have L2 := mhid hl2
          have S1 := mhid hs1
          have S2 := mhid hs2
          clear hl1 hl2 hs1 hs2 X5
          go_wp2_with fail
          refine L1.out.mono ?_
          rintro e w' ⟨rfl, rfl⟩
          go_wp2_with fail
          refine L2.out.mono ?_
          rintro e w' ⟨rfl, rfl⟩
          go_wp2_with fail
          refine S1.out.mono ?_
          rintro e w' ⟨rfl, rfl⟩
          go_wp2_with fail
          refine S2.out.mono ?_
          rintro e w' ⟨rfl, rfl⟩
          go_wp2_with fail
          go_roundw
          case rel => exact ⟨k + 1, by omega, by omega, by go_num, ⟨m2, g2, gr2, cap2, d2, rfl, rfl, hd2, G.out.1, G.out.2.2.1, by omega, by omega⟩, G.out.2.2.2.2⟩
          case measure => simp [intOf] <;> omega
        · have hst := rput_any w3 w.heap.size gr cap d F3.out.2.2.1 addr hb1.1 hb1.2 _ l hll R3.out
          rw [hdl] at hst
          have HT := mhid hst
          clear hst
          go_wp2_with fail
          refine HT.out.mono ?_
          rintro e w4 ⟨gr2, cap2, rfl, href2, B4, hgg⟩
          have hsz4 := B4.size
          have hme := F3.out.1.keep (Only.of_below (S := fun _ => False) B4) id id
          have X4 := X3.out.keep (Only.of_below (S := fun _ => False) B4) id
          have cv4 : w4.cell? ⟨bx, 4, none⟩ = some (.slice pl l.length cl) := keepm B4 (by show bx < _; omega) cv3
          have F4 := mhid (And.intro hme (And.intro (F3.out.2.1.keep (Only.of_below (S := fun _ => False) B4) id id) (And.intro (F3.out.2.2.1.keep (Only.of_below (S := fun _ => False) B4) id) (And.intro (mbt F3.out.2.2.2 B4) href2))))
          have hst := put_any w4 m2 g2 d hme addr hb1.1 hb1.2 _ l hll (RF.out.keep (Only.of_below (S := fun _ => False) B4) (fun _ h => h.elim))
          rw [show Puts m2 g2 d addr l w4 = fun e w' => e = .returned (.int .i64 (spanE N addr l.length 4)) ∧ MemAt w' m2 g2 (putV d addr l) ∧ Only (· = g2) w4 w' ∧ w'.heap.size = w4.heap.size from by unfold Puts; rw [hdl]] at hst
          have hd2 : (putV d addr l).length = N := by unfold putV; split <;> simp [putS_len, hdl]
          generalize putV d addr l = d2 at hst F4 hd2
          generalize spanE N addr l.length 4 = er at hst ⊢
          have HT := mhid hst
          have c1 := X4.c1
          have c2 := X4.c2
          have c3 := X4.c3
          have X4 := mhid X4
          clear hst hme href2 B4 F3 cw3 cv3 R3 RF
          go_wp2_with fail
          refine HT.out.mono ?_
          rintro e w5 ⟨rfl, H5, O5, hsz5⟩
          have G := mhid (And.intro H5 (And.intro (F4.out.2.1.keep O5 (by omega) (by omega)) (And.intro (F4.out.2.2.2.2.keep O5 (by omega)) (And.intro (F4.out.2.2.1.keep O5 (by omega)) (mbo F4.out.2.2.2.1 O5 (by have := F4.out.2.2.2.1.size; omega))))))
          have X5 := X4.out.keep O5 (by omega)
          clear H5 O5 F4 X4
          have c1 := X5.c1
          have c2 := X5.c2
          have hl1 := load_any w5 m2 g2 d2 G.out.1 addr many hb1.1 hb1.2
          have hl2 := rload_any w5 w.heap.size gr2 cap2 d2 G.out.2.2.1 addr many hb1.1 hb1.2
          have hs1 := same_mem w5 m2 g2 w.heap.size gr2 cap2 d2 G.out.1 G.out.2.2.1
          have hs2 := same_mem w5 m g w.heap.size gr cap d G.out.2.1 G.out.2.2.2.1
          rw [hd2] at hl1 hl2 hs1
          rw [hdl] at hs2
          generalize loadV d2 addr many = x1 at hl1 hl2
          generalize spanE N addr 1 many = x2 at hl1 hl2
          have L1 := mhid hl1
          have L2 := mhid hl2
          have S1 := mhid hs1
          have S2 := mhid hs2
          clear hl1 hl2 hs1 hs2 X5
          go_wp2_with fail
          refine L1.out.mono ?_
          rintro e w' ⟨rfl, rfl⟩
          go_wp2_with fail
          refine L2.out.mono ?_
          rintro e w' ⟨rfl, rfl⟩
          go_wp2_with fail
          refine S1.out.mono ?_
          rintro e w' ⟨rfl, rfl⟩
          go_wp2_with fail
          refine S2.out.mono ?_
          rintro e w' ⟨rfl, rfl⟩
          go_wp2_with fail
          go_roundw
          case rel => exact ⟨k + 1, by omega, by omega, by go_num, ⟨m2, g2, gr2, cap2, d2, rfl, rfl, hd2, G.out.1, G.out.2.2.1, by omega, by omega⟩, G.out.2.2.2.2⟩
          case measure => simp [intOf] <;> omega
        · have hst := words_any w3 m2 g2 d F3.out.1 addr hb1.1 hb1.2 many hb2.2
          have HT := mhid hst
          clear hst
          go_wp2_with fail
          refine HT.out.mono ?_
          rintro e w4 ⟨va, la, rfl, hla, howa, B4⟩
          have hme := F3.out.1.keep (Only.of_below (S := fun _ => False) B4) id id
          have X4 := X3.out.keep (Only.of_below (S := fun _ => False) B4) id
          have hre := F3.out.2.2.1.keep (Only.of_below (S := fun _ => False) B4) id
          have F4 := mhid (And.intro hme (And.intro (F3.out.2.1.keep (Only.of_below (S := fun _ => False) B4) id id) (And.intro hre (mbt F3.out.2.2.2 B4))))
          have RA := mhid (Reads32.of_own howa)
          have hst := rwords_any w4 w.heap.size gr cap d hre addr hb1.1 hb1.2 many hb2.2
          rw [show (Value.slice (some ⟨gr, 0, none⟩) d.length cap) = .slice (some ⟨gr, 0, none⟩) N cap from by rw [hdl]] at hst
          have HT := mhid hst
          have LA := mhid hla
          have c1 := X4.c1
          have c2 := X4.c2
          have X4 := mhid X4
          clear hst hme hre hla howa B4 F3 cw3 cv3 R3 RF
          go_wp2_with fail
          refine HT.out.mono ?_
          rintro e w5 ⟨vb, lb, rfl, hlb, howb, B5⟩
          have hab : la = lb := LA.out.trans hlb.symm
          have RB := mhid (Reads32.of_own howb)
          have RA5 := mhid (RA.out.keep B5)
          have X5 := X4.out.keep (Only.of_below (S := fun _ => False) B5) id
          have F5 := mhid (And.intro (F4.out.1.keep (Only.of_below (S := fun _ => False) B5) id id) (And.intro (F4.out.2.1.keep (Only.of_below (S := fun _ => False) B5) id id) (And.intro (F4.out.2.2.1.keep (Only.of_below (S := fun _ => False) B5) id) (mbt F4.out.2.2.2 B5))))
          have X5 := mhid X5
          subst hab
          have hsa := same_any w5 va vb la la RA5.out RB.out
          rw [decide_eq_true rfl] at hsa
          have HS := mhid hsa
          clear hsa
          clear hlb howb B5 F4 X4 RA
          go_wp2_with fail
          refine HS.out.mono ?_
          rintro e w6 ⟨rfl, B6⟩
          generalize spanE N addr many 4 = er
          have G := mhid (And.intro (F5.out.1.keep (Only.of_below (S := fun _ => False) B6) id id) (And.intro (F5.out.2.1.keep (Only.of_below (S := fun _ => False) B6) id id) (And.intro (F5.out.2.2.1.keep (Only.of_below (S := fun _ => False) B6) id) (And.intro (F5.out.2.2.1.keep (Only.of_below (S := fun _ => False) B6) id) (mbt F5.out.2.2.2 B6)))))
          have X5 := X5.out.keep (Only.of_below (S := fun _ => False) B6) id
          have hd2 := hdl
          clear B6 F5 HS
          clear c1 c2
          have c1 := X5.c1
          have c2 := X5.c2
          have hl1 := load_any w6 m2 g2 d G.out.1 addr many hb1.1 hb1.2
          have hl2 := rload_any w6 w.heap.size gr cap d G.out.2.2.1 addr many hb1.1 hb1.2
          have hs1 := same_mem w6 m2 g2 w.heap.size gr cap d G.out.1 G.out.2.2.1
          have hs2 := same_mem w6 m g w.heap.size gr cap d G.out.2.1 G.out.2.2.2.1
          rw [hd2] at hl1 hl2 hs1
          rw [hdl] at hs2
          generalize loadV d addr many = x1 at hl1 hl2
          generalize spanE N addr 1 many = x2 at hl1 hl2
          have L1 := mhid hl1
          have L2 := mhid hl2
          have S1 := mhid hs1
          have S2 := mhid hs2
          clear hl1 hl2 hs1 hs2 X5
          go_wp2_with fail
          refine L1.out.mono ?_
          rintro e w' ⟨rfl, rfl⟩
          go_wp2_with fail
          refine L2.out.mono ?_
          rintro e w' ⟨rfl, rfl⟩
          go_wp2_with fail
          refine S1.out.mono ?_
          rintro e w' ⟨rfl, rfl⟩
          go_wp2_with fail
          refine S2.out.mono ?_
          rintro e w' ⟨rfl, rfl⟩
          go_wp2_with fail
          go_roundw
          case rel => exact ⟨k + 1, by omega, by omega, by go_num, ⟨m2, g2, gr, cap, d, rfl, rfl, hd2, G.out.1, G.out.2.2.1, by omega, by omega⟩, G.out.2.2.2.2⟩
          case measure => simp [intOf] <;> omega
    · have hend : k = n ∨ (k = 30 ∧ (30 : Int) < n) := by omega
      clear hlt
      have KK := mhid hbl
      clear hbl hmem href
      rcases hend with rfl | ⟨rfl, hn30⟩
      all_goals
        go_wp2_with fail
        refine (mhead_any wr).mono ?_
        rintro e w9 ⟨rfl, hb9⟩
        have HB := mhid hb9
        clear hb9
        go_wp2_with fail
        go_ret
        exact ⟨rfl, mbt KK.out HB.out⟩
theorem walk_MemPlays (a0 : Int) (hlo : -9223372036854775808 ≤ a0) (hhi : a0 ≤ 9223372036854775807) (p : Option Addr) (n c : Nat) (w : World) (hn : n ≤ maxLen) (hacts : ActsIn w p n) :
    Calls Try.prog 3 #[.int .i64 a0, .slice p n c] w fun e w' => e = .returned (.bool true) ∧ Below w.heap.size w w' := by
  by_cases h : a0 < 0 ∨ 4194304 < a0 ∨ a0 % 4 ≠ 0
  · exact plays_not a0 p n c w h
  · obtain ⟨N, rfl⟩ := Int.eq_ofNat_of_zero_le (show 0 ≤ a0 by omega)
    by_cases h2 : 200 < N
    · exact plays_big N p n c w (by omega) (by omega) h2
    · exact plays_small N p n c w (by omega) (by omega) hn hacts
end Go.Proofs.Ytilegepenibeoaa
