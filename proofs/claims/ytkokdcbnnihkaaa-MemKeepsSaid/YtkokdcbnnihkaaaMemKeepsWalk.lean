/- The walk of muntinlaw05.MemKeeps: what is stored. -/
import Derived.Test.YtkokdcbnnihkaaaMemAct
import Derived.Test.YtkokdcbnnihkaaaMemKeepsLaw
namespace Go.Proofs.Ytkokdcbnnihkaaa
open Go.RowKit
set_option linter.unusedVariables false
/-- The fields of an Act that lie in a box. -/
structure BoxAt (w : World) (B : Nat) (addr many wv : Int) : Prop where
  c1 : w.cell? ⟨B, 1, none⟩ = some (.int .u32 addr)
  c2 : w.cell? ⟨B, 2, none⟩ = some (.int .i64 many)
  c3 : w.cell? ⟨B, 3, none⟩ = some (.int .u32 wv)
theorem BoxAt.keep {S : Nat → Prop} {a b : World} {B : Nat} {addr many wv : Int} (h : BoxAt a B addr many wv) (o : Only S a b) (hB : ¬ S B) : BoxAt b B addr many wv := by
  have hl := World.block_lt_of_cell? _ _ h.c1
  exact ⟨(o.cell (p := ⟨B, 1, none⟩) hl hB).trans h.c1, (o.cell (p := ⟨B, 2, none⟩) hl hB).trans h.c2, (o.cell (p := ⟨B, 3, none⟩) hl hB).trans h.c3⟩

set_option maxRecDepth 100000 in
set_option maxHeartbeats 4000000 in
theorem keeps1 (a0 : Int) (h0 : 0 ≤ a0) (h02 : a0 < 256) (cs : Array Value) (what addr many wv : Int) (v : Value) (l : List Int) (w : World) (h : ActIs w cs.toList what addr many wv v l) (ht : ¬ many.tmod 2 = 0) :
    Calls Try.prog 3 #[.int .u8 a0, .agg cs] w fun e w' => e = .returned (.bool true) ∧ Below w.heap.size w w' := by
  obtain rfl : cs = #[.int .u8 what, .int .u32 addr, .int .i64 many, .int .u32 wv, v] := by have := h.cells; apply Array.toList_inj.1; rw [this]
  obtain ⟨_, p, c, rfl, _⟩ := h.row
  have hb1 := h.b1
  have hb3 := h.b3
  have ht1 : -2 < many.tmod 2 ∧ many.tmod 2 < 2 := by
    have hq : (many.tmod 2).natAbs < (2 : Int).natAbs := by rw [Int.natAbs_tmod]; exact Nat.mod_lt _ (by omega)
    omega
  have ht2 : (many.tmod 2 == 0) = false := by simpa using ht
  obtain ⟨N, hN⟩ : ∃ N : Nat, (N : Int) = a0 % 50 * 4 := ⟨(a0 % 50 * 4).toNat, by omega⟩
  have hN2 : N ≤ 196 := by omega
  have hN4 : N % 4 = 0 := by omega
  clear h ht
  go_enter Try.func3, Try.ntmps3
  go_wp2_with fail
  rw [← hN]
  clear hN
  have hnew := new_ok N (w.alloc (.cells #[.int .u8 what, .int .u32 addr, .int .i64 many, .int .u32 wv, .slice p l.length c] 25)) (by omega) hN4
  refine hnew.mono ?_
  rintro e w0 ⟨m, g, rfl, hm, hg, H, B⟩
  have X : BoxAt (w.alloc (.cells #[.int .u8 what, .int .u32 addr, .int .i64 many, .int .u32 wv, .slice p l.length c] 25)) w.heap.size addr many wv := ⟨by simp, by simp, by simp⟩
  have X : BoxAt w0 w.heap.size addr many wv := X.keep (Only.of_below (S := fun _ => False) B) id
  rw [World.size_alloc] at hm hg B
  have B : Below w.heap.size w w0 := ((Below.refl _ w).alloc (Nat.le_refl _) _).trans (B.mono (by omega))
  rw [← dI_zero] at H
  clear hnew
  go_wp2_with fail
  go_loopw [8] (fun i wr => ∃ k : Nat, k ≤ N ∧ i = .int .i64 k ∧ MemAt wr m g (dI N k) ∧ BoxAt wr w.heap.size addr many wv ∧ Below w.heap.size w wr) (fun i _ => N - (intOf i).toNat)
  case atStart => exact ⟨0, Nat.zero_le _, rfl, H, X, B⟩
  case round =>
    clear H X B
    obtain ⟨k, hk, rfl, H, X, B⟩ := hrel
    by_cases hlt : k < N
    · have h1 : (k : Int) < N := by omega
      have hlen := dI_len N k
      have K := mhid (And.intro H (And.intro X B))
      clear H X B
      go_wp2_with fail
      refine (store_any _ m g _ K.out.1 k 1 (by omega) (by omega) (3 * (k : Int) + 1) (by omega) (by omega)).mono ?_
      rintro e w1 ⟨he, H1, O, -⟩
      rw [hlen, spanE_byte N k hlt] at he
      subst he
      rw [storeV_init N k hlt] at H1
      have X1 := K.out.2.1.keep O (by omega)
      have B1 : Below w.heap.size w w1 := mbo K.out.2.2 O (by omega)
      clear O hlen K
      have K := mhid (And.intro H1 (And.intro X1 B1))
      clear H1 X1 B1
      go_wp2_with fail
      go_roundw
      case rel => exact ⟨k + 1, by omega, by go_num, K.out.1, K.out.2.1, K.out.2.2⟩
      case measure => simp [intOf] <;> omega
    · obtain rfl : k = N := by omega
      obtain ⟨c1, c2, c3⟩ := X
      go_wp2_with fail
      refine (store_any _ m g _ H addr 1 hb1.1 hb1.2 wv hb3.1 hb3.2).mono ?_
      rintro e w1 ⟨rfl, H1, O, -⟩
      have X1 : BoxAt w1 w.heap.size addr many wv := BoxAt.keep ⟨c1, c2, c3⟩ O (by omega)
      have B1 : Below w.heap.size w w1 := mbo B O (by omega)
      have HD := H1.bytes
      have hl0 := dI_len k k
      have hl1 : (storeV (dI k k) addr 1 wv).length = k := by rw [storeV_len, hl0]
      rw [hl0]
      clear c1 c2 c3 O B H
      obtain ⟨c1, c2, c3⟩ := X1
      have hld := load_any w1 m g _ H1 addr 1 hb1.1 hb1.2
      rw [hl1] at hld
      have HLD := mhid hld
      clear hld hl0 hlt hk
      have K := mhid (And.intro H1 (And.intro B1 hl1))
      clear H1 B1 hl1
      by_cases hf : spanE k addr 1 1 = 0
      · have F := mhid hf
        have hback : loadV (storeV (dI k k) addr 1 wv) addr 1 = wv % 256 := back1 _ _ _ hb1.1 (by rw [dI_len]; exact hf)
        have HB := mhid hback
        rw [hf]
        clear hf hback
        go_wp2_with fail
        refine HLD.out.mono ?_
        rw [F.out, HB.out]
        rintro e w' ⟨rfl, rfl⟩
        clear HLD HB
        go_wp2_with fail
        go_loop [13, 14, 15, 16, 17] (fun i _ _ _ _ => ∃ j : Nat, j ≤ k ∧ i = .int .i64 j) (fun i _ _ _ _ => k - (intOf i).toNat)
        case atStart => exact ⟨0, Nat.zero_le _, rfl⟩
        case round =>
          obtain ⟨j, hj, rfl⟩ := hrel
          by_cases hjk : j < k
          · have hjk2 : (j : Int) < k := by omega
            have hlj := load_any w1 m g _ K.out.1 j 1 (by omega) (by omega)
            rw [K.out.2.2, spanE_byte k j hjk, loadV_byte _ j (by rw [K.out.2.2]; exact hjk)] at hlj
            by_cases hin : addr ≤ j ∧ (j : Int) < addr + 1
            · have hat : (j : Int) - addr = 0 := by omega
              rw [byte_in1 (dI k k) addr wv j hb1.1 (by rw [dI_len]; exact F.out) hat] at hlj
              have HL := mhid hlj
              clear hlj hin
              go_wp2_with fail
              refine HL.out.mono ?_
              rintro e w' ⟨rfl, rfl⟩
              go_wp2_with fail
              exact ⟨⟨j + 1, by omega, by go_num⟩, by simp [intOf] <;> omega⟩
            · have hv := byte_out (dI k k) addr 1 wv j hb1.1 (by simp) (fun q => hin q.2)
              rw [hv, dI_at k j hjk] at hlj
              have HL := mhid hlj
              clear hlj hv
              by_cases hlo : addr ≤ j
              · have hn2 : ¬ (j : Int) - addr < 1 := by omega
                have hn3 : decide ((j : Int) - addr < 1) = false := by simpa using hn2
                clear hin
                go_wp2_with fail
                refine HL.out.mono ?_
                rintro e w' ⟨rfl, rfl⟩
                go_wp2_with fail
                exact ⟨⟨j + 1, by omega, by go_num⟩, by simp [intOf] <;> omega⟩
              · have hn2 : ¬ (0 : Int) ≤ (j : Int) - addr := by omega
                have hn3 : decide ((0 : Int) ≤ (j : Int) - addr) = false := by simpa using hn2
                clear hin
                go_wp2_with fail
                refine HL.out.mono ?_
                rintro e w' ⟨rfl, rfl⟩
                go_wp2_with fail
                exact ⟨⟨j + 1, by omega, by go_num⟩, by simp [intOf] <;> omega⟩
          · obtain rfl : j = k := by omega
            go_wp2_with fail
            refine (mhead_any _).mono ?_
            rintro e w' ⟨rfl, B2⟩
            go_wp2_with fail
            go_ret
            exact ⟨rfl, mbt K.out.2.1 B2⟩
      · have F := mhid hf
        have hf2 : (spanE k addr 1 1 == 0) = false := by simpa using hf
        have hf3 : (spanE k addr 1 1 != 0) = true := by simpa using hf
        clear hf
        generalize loadV (storeV (dI k k) addr 1 wv) addr 1 = bk at HLD
        have hE : spanE k addr 1 1 = spanE k addr 1 1 := rfl
        generalize hEE : spanE k addr 1 1 = E at HLD hf2 hf3 ⊢
        have F : Hid (¬ spanE k addr 1 1 = 0) := F
        clear hEE hE
        go_wp2_with fail
        refine HLD.out.mono ?_
        rintro e w' ⟨rfl, rfl⟩
        clear HLD
        go_wp2_with fail
        go_loop [13, 14, 15, 16, 17] (fun i _ _ _ _ => ∃ j : Nat, j ≤ k ∧ i = .int .i64 j) (fun i _ _ _ _ => k - (intOf i).toNat)
        case atStart => exact ⟨0, Nat.zero_le _, rfl⟩
        case round =>
          obtain ⟨j, hj, rfl⟩ := hrel
          by_cases hjk : j < k
          · have hjk2 : (j : Int) < k := by omega
            have hlj := load_any w1 m g _ K.out.1 j 1 (by omega) (by omega)
            rw [K.out.2.2, spanE_byte k j hjk, loadV_byte _ j (by rw [K.out.2.2]; exact hjk)] at hlj
            have hv := byte_out (dI k k) addr 1 wv j hb1.1 (by simp) (fun q => F.out (by rw [dI_len] at q; exact q.1))
            rw [hv, dI_at k j hjk] at hlj
            have HL := mhid hlj
            clear hlj hv
            go_wp2_with fail
            refine HL.out.mono ?_
            rintro e w' ⟨rfl, rfl⟩
            go_wp2_with fail
            exact ⟨⟨j + 1, by omega, by go_num⟩, by simp [intOf] <;> omega⟩
          · obtain rfl : j = k := by omega
            go_wp2_with fail
            refine (mhead_any _).mono ?_
            rintro e w' ⟨rfl, B2⟩
            go_wp2_with fail
            go_ret
            exact ⟨rfl, mbt K.out.2.1 B2⟩

set_option maxRecDepth 100000 in
set_option maxHeartbeats 4000000 in
theorem keeps4 (a0 : Int) (h0 : 0 ≤ a0) (h02 : a0 < 256) (cs : Array Value) (what addr many wv : Int) (v : Value) (l : List Int) (w : World) (h : ActIs w cs.toList what addr many wv v l) (ht : many.tmod 2 = 0) :
    Calls Try.prog 3 #[.int .u8 a0, .agg cs] w fun e w' => e = .returned (.bool true) ∧ Below w.heap.size w w' := by
  obtain rfl : cs = #[.int .u8 what, .int .u32 addr, .int .i64 many, .int .u32 wv, v] := by have := h.cells; apply Array.toList_inj.1; rw [this]
  obtain ⟨_, p, c, rfl, _⟩ := h.row
  have hb1 := h.b1
  have hb3 := h.b3
  have ht1 : -2 < many.tmod 2 ∧ many.tmod 2 < 2 := by
    have hq : (many.tmod 2).natAbs < (2 : Int).natAbs := by rw [Int.natAbs_tmod]; exact Nat.mod_lt _ (by omega)
    omega
  have ht2 : (many.tmod 2 == 0) = true := by simpa using ht
  obtain ⟨N, hN⟩ : ∃ N : Nat, (N : Int) = a0 % 50 * 4 := ⟨(a0 % 50 * 4).toNat, by omega⟩
  have hN2 : N ≤ 196 := by omega
  have hN4 : N % 4 = 0 := by omega
  clear h ht
  go_enter Try.func3, Try.ntmps3
  go_wp2_with fail
  rw [← hN]
  clear hN
  have hnew := new_ok N (w.alloc (.cells #[.int .u8 what, .int .u32 addr, .int .i64 many, .int .u32 wv, .slice p l.length c] 25)) (by omega) hN4
  refine hnew.mono ?_
  rintro e w0 ⟨m, g, rfl, hm, hg, H, B⟩
  have X : BoxAt (w.alloc (.cells #[.int .u8 what, .int .u32 addr, .int .i64 many, .int .u32 wv, .slice p l.length c] 25)) w.heap.size addr many wv := ⟨by simp, by simp, by simp⟩
  have X : BoxAt w0 w.heap.size addr many wv := X.keep (Only.of_below (S := fun _ => False) B) id
  rw [World.size_alloc] at hm hg B
  have B : Below w.heap.size w w0 := ((Below.refl _ w).alloc (Nat.le_refl _) _).trans (B.mono (by omega))
  rw [← dI_zero] at H
  clear hnew
  go_wp2_with fail
  go_loopw [8] (fun i wr => ∃ k : Nat, k ≤ N ∧ i = .int .i64 k ∧ MemAt wr m g (dI N k) ∧ BoxAt wr w.heap.size addr many wv ∧ Below w.heap.size w wr) (fun i _ => N - (intOf i).toNat)
  case atStart => exact ⟨0, Nat.zero_le _, rfl, H, X, B⟩
  case round =>
    clear H X B
    obtain ⟨k, hk, rfl, H, X, B⟩ := hrel
    by_cases hlt : k < N
    · have h1 : (k : Int) < N := by omega
      have hlen := dI_len N k
      have K := mhid (And.intro H (And.intro X B))
      clear H X B
      go_wp2_with fail
      refine (store_any _ m g _ K.out.1 k 1 (by omega) (by omega) (3 * (k : Int) + 1) (by omega) (by omega)).mono ?_
      rintro e w1 ⟨he, H1, O, -⟩
      rw [hlen, spanE_byte N k hlt] at he
      subst he
      rw [storeV_init N k hlt] at H1
      have X1 := K.out.2.1.keep O (by omega)
      have B1 : Below w.heap.size w w1 := mbo K.out.2.2 O (by omega)
      clear O hlen K
      have K := mhid (And.intro H1 (And.intro X1 B1))
      clear H1 X1 B1
      go_wp2_with fail
      go_roundw
      case rel => exact ⟨k + 1, by omega, by go_num, K.out.1, K.out.2.1, K.out.2.2⟩
      case measure => simp [intOf] <;> omega
    · obtain rfl : k = N := by omega
      obtain ⟨c1, c2, c3⟩ := X
      go_wp2_with fail
      refine (store_any _ m g _ H addr 4 hb1.1 hb1.2 wv hb3.1 hb3.2).mono ?_
      rintro e w1 ⟨rfl, H1, O, -⟩
      have X1 : BoxAt w1 w.heap.size addr many wv := BoxAt.keep ⟨c1, c2, c3⟩ O (by omega)
      have B1 : Below w.heap.size w w1 := mbo B O (by omega)
      have HD := H1.bytes
      have hl0 := dI_len k k
      have hl1 : (storeV (dI k k) addr 4 wv).length = k := by rw [storeV_len, hl0]
      rw [hl0]
      clear c1 c2 c3 O B H
      obtain ⟨c1, c2, c3⟩ := X1
      have hld := load_any w1 m g _ H1 addr 4 hb1.1 hb1.2
      rw [hl1] at hld
      have HLD := mhid hld
      clear hld hl0 hlt hk
      have K := mhid (And.intro H1 (And.intro B1 hl1))
      clear H1 B1 hl1
      by_cases hf : spanE k addr 1 4 = 0
      · have F := mhid hf
        have hback : loadV (storeV (dI k k) addr 4 wv) addr 4 = wv := back4 _ _ _ hb1.1 hb3.1 hb3.2 (by rw [dI_len]; exact hf)
        have HB := mhid hback
        rw [hf]
        clear hf hback
        go_wp2_with fail
        refine HLD.out.mono ?_
        rw [F.out, HB.out]
        rintro e w' ⟨rfl, rfl⟩
        clear HLD HB
        go_wp2_with fail
        go_loop [13, 14, 15, 16, 17] (fun i _ _ _ _ => ∃ j : Nat, j ≤ k ∧ i = .int .i64 j) (fun i _ _ _ _ => k - (intOf i).toNat)
        case atStart => exact ⟨0, Nat.zero_le _, rfl⟩
        case round =>
          obtain ⟨j, hj, rfl⟩ := hrel
          by_cases hjk : j < k
          · have hjk2 : (j : Int) < k := by omega
            have hlj := load_any w1 m g _ K.out.1 j 1 (by omega) (by omega)
            rw [K.out.2.2, spanE_byte k j hjk, loadV_byte _ j (by rw [K.out.2.2]; exact hjk)] at hlj
            by_cases hin : addr ≤ j ∧ (j : Int) < addr + 4
            · have hq : (j : Int) - addr = 0 ∨ (j : Int) - addr = 1 ∨ (j : Int) - addr = 2 ∨ (j : Int) - addr = 3 := by omega
              clear hin
              rcases hq with hat | hat | hat | hat
              · rw [byte_in4 (dI k k) addr wv j 0 hb1.1 (by rw [dI_len]; exact F.out) (by omega) hat] at hlj
                have HL := mhid hlj
                clear hlj
                go_wp2_with fail
                refine HL.out.mono ?_
                rintro e w' ⟨rfl, rfl⟩
                go_wp2_with fail
                exact ⟨⟨j + 1, by omega, by go_num⟩, by simp [intOf] <;> omega⟩
              · rw [byte_in4 (dI k k) addr wv j 1 hb1.1 (by rw [dI_len]; exact F.out) (by omega) hat] at hlj
                have HL := mhid hlj
                clear hlj
                go_wp2_with fail
                refine HL.out.mono ?_
                rintro e w' ⟨rfl, rfl⟩
                go_wp2_with fail
                exact ⟨⟨j + 1, by omega, by go_num⟩, by simp [intOf] <;> omega⟩
              · rw [byte_in4 (dI k k) addr wv j 2 hb1.1 (by rw [dI_len]; exact F.out) (by omega) hat] at hlj
                have HL := mhid hlj
                clear hlj
                go_wp2_with fail
                refine HL.out.mono ?_
                rintro e w' ⟨rfl, rfl⟩
                go_wp2_with fail
                exact ⟨⟨j + 1, by omega, by go_num⟩, by simp [intOf] <;> omega⟩
              · rw [byte_in4 (dI k k) addr wv j 3 hb1.1 (by rw [dI_len]; exact F.out) (by omega) hat] at hlj
                have HL := mhid hlj
                clear hlj
                go_wp2_with fail
                refine HL.out.mono ?_
                rintro e w' ⟨rfl, rfl⟩
                go_wp2_with fail
                exact ⟨⟨j + 1, by omega, by go_num⟩, by simp [intOf] <;> omega⟩
            · have hv := byte_out (dI k k) addr 4 wv j hb1.1 (by simp) (fun q => hin q.2)
              rw [hv, dI_at k j hjk] at hlj
              have HL := mhid hlj
              clear hlj hv
              by_cases hlo : addr ≤ j
              · have hn2 : ¬ (j : Int) - addr < 4 := by omega
                have hn3 : decide ((j : Int) - addr < 4) = false := by simpa using hn2
                clear hin
                go_wp2_with fail
                refine HL.out.mono ?_
                rintro e w' ⟨rfl, rfl⟩
                go_wp2_with fail
                exact ⟨⟨j + 1, by omega, by go_num⟩, by simp [intOf] <;> omega⟩
              · have hn2 : ¬ (0 : Int) ≤ (j : Int) - addr := by omega
                have hn3 : decide ((0 : Int) ≤ (j : Int) - addr) = false := by simpa using hn2
                clear hin
                go_wp2_with fail
                refine HL.out.mono ?_
                rintro e w' ⟨rfl, rfl⟩
                go_wp2_with fail
                exact ⟨⟨j + 1, by omega, by go_num⟩, by simp [intOf] <;> omega⟩
          · obtain rfl : j = k := by omega
            go_wp2_with fail
            refine (mhead_any _).mono ?_
            rintro e w' ⟨rfl, B2⟩
            go_wp2_with fail
            go_ret
            exact ⟨rfl, mbt K.out.2.1 B2⟩
      · have F := mhid hf
        have hf2 : (spanE k addr 1 4 == 0) = false := by simpa using hf
        have hf3 : (spanE k addr 1 4 != 0) = true := by simpa using hf
        clear hf
        generalize loadV (storeV (dI k k) addr 4 wv) addr 4 = bk at HLD
        have hE : spanE k addr 1 4 = spanE k addr 1 4 := rfl
        generalize hEE : spanE k addr 1 4 = E at HLD hf2 hf3 ⊢
        have F : Hid (¬ spanE k addr 1 4 = 0) := F
        clear hEE hE
        go_wp2_with fail
        refine HLD.out.mono ?_
        rintro e w' ⟨rfl, rfl⟩
        clear HLD
        go_wp2_with fail
        go_loop [13, 14, 15, 16, 17] (fun i _ _ _ _ => ∃ j : Nat, j ≤ k ∧ i = .int .i64 j) (fun i _ _ _ _ => k - (intOf i).toNat)
        case atStart => exact ⟨0, Nat.zero_le _, rfl⟩
        case round =>
          obtain ⟨j, hj, rfl⟩ := hrel
          by_cases hjk : j < k
          · have hjk2 : (j : Int) < k := by omega
            have hlj := load_any w1 m g _ K.out.1 j 1 (by omega) (by omega)
            rw [K.out.2.2, spanE_byte k j hjk, loadV_byte _ j (by rw [K.out.2.2]; exact hjk)] at hlj
            have hv := byte_out (dI k k) addr 4 wv j hb1.1 (by simp) (fun q => F.out (by rw [dI_len] at q; exact q.1))
            rw [hv, dI_at k j hjk] at hlj
            have HL := mhid hlj
            clear hlj hv
            go_wp2_with fail
            refine HL.out.mono ?_
            rintro e w' ⟨rfl, rfl⟩
            go_wp2_with fail
            exact ⟨⟨j + 1, by omega, by go_num⟩, by simp [intOf] <;> omega⟩
          · obtain rfl : j = k := by omega
            go_wp2_with fail
            refine (mhead_any _).mono ?_
            rintro e w' ⟨rfl, B2⟩
            go_wp2_with fail
            go_ret
            exact ⟨rfl, mbt K.out.2.1 B2⟩

theorem walk_MemKeeps (a0 : Int) (w0 : (Lit.int .u8 a0).wf = true) (cs : Array Value) (what addr many wv : Int) (v : Value) (l : List Int) (w : World) (h : ActIs w cs.toList what addr many wv v l) :
    Calls Try.prog 3 #[.int .u8 a0, .agg cs] w fun e w' => e = .returned (.bool true) ∧ Below w.heap.size w w' := by
  have b := bounds_u8 w0
  by_cases ht : many.tmod 2 = 0
  · exact keeps4 a0 b.1 (by omega) cs what addr many wv v l w h ht
  · exact keeps1 a0 b.1 (by omega) cs what addr many wv v l w h ht
end Go.Proofs.Ytkokdcbnnihkaaa
