/- The walk of muntinlaw05.MemApart: places that have no byte in common. -/
import Derived.Test.YtkokdcbnnihkaaaMemHead
import Derived.Test.YtkokdcbnnihkaaaMemApartLaw
namespace Go.Proofs.Ytkokdcbnnihkaaa
open Go.RowKit
set_option linter.unusedVariables false
set_option linter.unusedSimpArgs false
/-- A box of two words. -/
structure Two (w : World) (B : Nat) (x y : Int) : Prop where
  c0 : w.cell? ⟨B, 0, none⟩ = some (.int .u32 x)
  c1 : w.cell? ⟨B, 1, none⟩ = some (.int .u32 y)
theorem Two.keep {S : Nat → Prop} {a b : World} {B : Nat} {x y : Int} (h : Two a B x y) (o : Only S a b) (hB : ¬ S B) : Two b B x y := by
  have hl := World.block_lt_of_cell? _ _ h.c0
  exact ⟨(o.cell (p := ⟨B, 0, none⟩) hl hB).trans h.c0, (o.cell (p := ⟨B, 1, none⟩) hl hB).trans h.c1⟩
abbrev apartW (w : World) (a0 a1 b0 b1 : Int) : World := (w.alloc (.cells #[.int .u32 a0, .int .u32 a1] 41)).alloc (.cells #[.int .u32 b0, .int .u32 b1] 41)
theorem keepO {a b : World} {g B i : Nat} {v : Value} (o : Only (· = g) a b) (h : a.cell? ⟨B, i, none⟩ = some v) (hB : B ≠ g) : b.cell? ⟨B, i, none⟩ = some v := (o.cell (p := ⟨B, i, none⟩) (World.block_lt_of_cell? _ _ h) hB).trans h
theorem own_row {w : World} {base : Nat} {v : Value} {l : List Int} (h : w.ownsRow base 22 1 v l.length (u32s l)) (h0 : 0 < l.length) : ∃ g c, v = .slice (some ⟨g, 0, none⟩) l.length c ∧ (base ≤ g ∧ g < w.heap.size) ∧ ∀ k, k < l.length → w.cell? ⟨g, k, none⟩ = some (.int .u32 (l.getD k 0)) := by
  obtain ⟨_, p, c, rfl, h2⟩ := Reads32.of_own h
  obtain ⟨b, o, rfl, h3⟩ := h2 h0
  rcases h.2 with ⟨h1, _⟩ | ⟨g, cap, cur, h1, hb, _⟩
  · cases h1
  · cases h1
    refine ⟨b, c, rfl, ⟨hb, World.block_lt_of_cell? _ _ (h3 0 h0)⟩, fun k hk => ?_⟩
    have := h3 k hk; rwa [Nat.zero_add] at this
/-- A row of words of one's own. -/
def RowAt (w : World) (g : Nat) (l : List Int) (n : Nat) : Prop := g < w.heap.size ∧ ∀ k, k < n → w.cell? ⟨g, k, none⟩ = some (.int .u32 (l.getD k 0))
theorem RowAt.keep {S : Nat → Prop} {a b : World} {g n : Nat} {l : List Int} (h : RowAt a g l n) (o : Only S a b) (hg : ¬ S g) : RowAt b g l n :=
  ⟨Nat.lt_of_lt_of_le h.1 o.size, fun k hk => (o.cell (p := ⟨g, k, none⟩) h.1 hg).trans (h.2 k hk)⟩
theorem place_of (a : Int) (N : Nat) (h : 0 ≤ a) (hN : 8 ≤ N) (h4 : N % 4 = 0) (hN2 : N ≤ 796) : ∃ P : Nat, (a % (N : Int)).tdiv 4 % 4294967296 * 4 % 4294967296 = (P : Int) ∧ P % 4 = 0 ∧ P + 4 ≤ N := by
  have h1 := Int.emod_nonneg a (show (N : Int) ≠ 0 by omega)
  have h2 := Int.emod_lt_of_pos a (show 0 < (N : Int) by omega)
  generalize a % (N : Int) = x at *
  rw [Int.tdiv_eq_ediv_of_nonneg h1]
  exact ⟨(x / 4 * 4).toNat, by omega, by omega, by omega⟩
set_option maxRecDepth 100000 in
set_option maxHeartbeats 4000000 in
theorem walk_MemApart (s : Int) (ws : (Lit.int .u8 s).wf = true) (a0 a1 b0 b1 : Int) (ha0 : 0 ≤ a0 ∧ a0 < 4294967296) (ha1 : 0 ≤ a1 ∧ a1 < 4294967296) (hb0 : 0 ≤ b0 ∧ b0 < 4294967296) (hb1 : 0 ≤ b1 ∧ b1 < 4294967296) (w : World) :
    Calls Try.prog 5 #[.int .u8 s, .agg #[.int .u32 a0, .int .u32 a1], .agg #[.int .u32 b0, .int .u32 b1]] w fun e w' => e = .returned (.bool true) ∧ Below w.heap.size w w' := by
  have hs := bounds_u8 ws
  obtain ⟨N, hN⟩ : ∃ N : Nat, (N : Int) = 4 * (s % 200) := ⟨(4 * (s % 200)).toNat, by omega⟩
  have hN2 : N ≤ 796 := by omega
  have hN4 : N % 4 = 0 := by omega
  have TA : Two (apartW w a0 a1 b0 b1) w.heap.size a0 a1 := ⟨by simp [go_sem], by simp [go_sem]⟩
  have TB : Two (apartW w a0 a1 b0 b1) (w.heap.size + 1) b0 b1 := ⟨by simp [go_sem], by simp [go_sem]⟩
  have B : Below w.heap.size w (apartW w a0 a1 b0 b1) := ((Below.refl _ w).alloc (Nat.le_refl _) _).alloc (by simp) _
  have hsz : (apartW w a0 a1 b0 b1).heap.size = w.heap.size + 2 := by simp
  go_enter Try.func5, Try.ntmps5
  go_wp2_with fail
  rw [← hN]
  clear hN ws
  refine (new_ok N (apartW w a0 a1 b0 b1) (by omega) hN4).mono ?_
  rintro e w0 ⟨mx, gx, rfl, hm1, hg1, HX, B1⟩
  rw [hsz] at hm1 hg1
  replace TA : Two w0 w.heap.size a0 a1 := TA.keep (Only.of_below (S := fun _ => False) B1) id
  replace TB : Two w0 (w.heap.size + 1) b0 b1 := TB.keep (Only.of_below (S := fun _ => False) B1) id
  replace B : Below w.heap.size w w0 := mbt B B1
  have hsz0 : w.heap.size + 2 ≤ w0.heap.size := by rw [← hsz]; exact B1.size
  clear B1 hsz
  go_wp2_with fail
  refine (new_ok N w0 (by omega) hN4).mono ?_
  rintro e w1 ⟨my, gy, rfl, hm2, hg2, HY, B1⟩
  have hxlt := HX.lt
  replace TA : Two w1 w.heap.size a0 a1 := TA.keep (Only.of_below (S := fun _ => False) B1) id
  replace TB : Two w1 (w.heap.size + 1) b0 b1 := TB.keep (Only.of_below (S := fun _ => False) B1) id
  replace HX : MemAt w1 mx gx (List.replicate N 0) := HX.keep (Only.of_below (S := fun _ => False) B1) id id
  replace B : Below w.heap.size w w1 := mbt B B1
  clear B1
  by_cases h8 : N < 8
  · have h8' : (N : Int) < 8 := by omega
    clear HX HY TA TB
    go_wp2_with fail
    refine (mhead_any _).mono ?_
    rintro e w' ⟨rfl, B2⟩
    go_wp2_with fail
    go_ret
    exact ⟨rfl, mbt B B2⟩
  · have h8' : ¬ (N : Int) < 8 := by omega
    obtain ⟨P, hP⟩ : ∃ P : Nat, (a0 % (N : Int)).tdiv 4 % 4294967296 * 4 % 4294967296 = (P : Int) ∧ P % 4 = 0 ∧ P + 4 ≤ N := place_of a0 N ha0.1 (by omega) hN4 (by omega)
    obtain ⟨Q, hQ⟩ : ∃ Q : Nat, (b0 % (N : Int)).tdiv 4 % 4294967296 * 4 % 4294967296 = (Q : Int) ∧ Q % 4 = 0 ∧ Q + 4 ≤ N := place_of b0 N hb0.1 (by omega) hN4 (by omega)
    have PQ := mhid (And.intro hP.1 hQ.1)
    obtain ⟨-, hP4, hPN⟩ := hP
    obtain ⟨-, hQ4, hQN⟩ := hQ
    have K := mhid (And.intro HX (And.intro HY (And.intro TA (And.intro TB B))))
    obtain ⟨c0, c1⟩ := TA
    obtain ⟨d0, d1⟩ := TB
    have hN0 : ¬ (N : Int) = 0 := by omega
    have hNw : IntKind.u32.wrap (N : Int) = N := IntWalk.u32_in _ (by omega)
    have hylt := HY.lt
    clear HX HY B
    go_wp2_with fail
    go_quiet (fail)
    rename_i nq
    rw [PQ.out.1, PQ.out.2]
    have O : Only (fun _ => False) w1 (w1.drewN nq) := (Only.refl _ w1).drewN nq
    have HX := K.out.1.keep O id id
    have HY := K.out.2.1.keep O id id
    have TA := K.out.2.2.1.keep O id
    have TB := K.out.2.2.2.1.keep O id
    have B : Below w.heap.size w (w1.drewN nq) := below_drewN K.out.2.2.2.2 nq
    have hsz2 : (w1.drewN nq).heap.size = w1.heap.size := rfl
    clear K O c0 c1 d0 d1 hN0 hNw
    generalize w1.drewN nq = w2 at *
    by_cases hpq : P = Q
    · subst hpq
      clear HX HY TA TB
      go_wp2_with fail
      refine (mhead_any _).mono ?_
      rintro e w' ⟨rfl, B2⟩
      go_wp2_with fail
      go_ret
      exact ⟨rfl, mbt B B2⟩
    · have hpq2 : ((P : Int) == (Q : Int)) = false := by simp; omega
      have hlz : (List.replicate N (0 : Int)).length = N := List.length_replicate
      have hz := Bytes.zeros N
      have hd : P + 4 ≤ Q ∨ Q + 4 ≤ P := by omega
      have HPQ := mhid hpq
      have HD := mhid hd
      clear hpq hd
      obtain ⟨c0, c1⟩ := TA
      obtain ⟨d0, d1⟩ := TB
      have nx : mx ≠ gy ∧ gx ≠ gy ∧ my ≠ gx ∧ gy ≠ gx := by omega
      go_wp2_with fail
      refine (store_any _ mx gx _ HX P 4 (by omega) (by omega) a1 ha1.1 ha1.2).mono ?_
      rintro e w' ⟨he, H1, O, -⟩
      rw [show spanE (List.replicate N (0 : Int)).length P 1 4 = 0 from spanE_word _ _ hP4 (by simp [storeS_len]; omega)] at he
      subst he
      rw [storeV_word _ _ _ hP4 (by simp [storeS_len]; omega)] at H1
      have c0 := keepO O c0 (by omega)
      have c1 := keepO O c1 (by omega)
      have d0 := keepO O d0 (by omega)
      have d1 := keepO O d1 (by omega)
      replace HX := H1
      replace HY := HY.keep O (by omega) (by omega)
      replace B := mbo B O (by omega)
      clear O H1
      go_wp2_with fail
      refine (store_any _ mx gx _ HX Q 4 (by omega) (by omega) b1 hb1.1 hb1.2).mono ?_
      rintro e w' ⟨he, H1, O, -⟩
      rw [show spanE (storeS (List.replicate N (0 : Int)) P 4 a1).length Q 1 4 = 0 from spanE_word _ _ hQ4 (by simp [storeS_len]; omega)] at he
      subst he
      rw [storeV_word _ _ _ hQ4 (by simp [storeS_len]; omega)] at H1
      replace c0 := keepO O c0 (by omega)
      replace c1 := keepO O c1 (by omega)
      replace d0 := keepO O d0 (by omega)
      replace d1 := keepO O d1 (by omega)
      replace HX := H1
      replace HY := HY.keep O (by omega) (by omega)
      replace B := mbo B O (by omega)
      clear O H1
      go_wp2_with fail
      refine (store_any _ my gy _ HY Q 4 (by omega) (by omega) b1 hb1.1 hb1.2).mono ?_
      rintro e w' ⟨he, H1, O, -⟩
      rw [show spanE (List.replicate N (0 : Int)).length Q 1 4 = 0 from spanE_word _ _ hQ4 (by simp [storeS_len]; omega)] at he
      subst he
      rw [storeV_word _ _ _ hQ4 (by simp [storeS_len]; omega)] at H1
      replace c0 := keepO O c0 (by omega)
      replace c1 := keepO O c1 (by omega)
      replace d0 := keepO O d0 (by omega)
      replace d1 := keepO O d1 (by omega)
      replace HY := H1
      replace HX := HX.keep O (by omega) (by omega)
      replace B := mbo B O (by omega)
      clear O H1
      go_wp2_with fail
      refine (store_any _ my gy _ HY P 4 (by omega) (by omega) a1 ha1.1 ha1.2).mono ?_
      rintro e w' ⟨he, H1, O, -⟩
      rw [show spanE (storeS (List.replicate N (0 : Int)) Q 4 b1).length P 1 4 = 0 from spanE_word _ _ hP4 (by simp [storeS_len]; omega)] at he
      subst he
      rw [storeV_word _ _ _ hP4 (by simp [storeS_len]; omega)] at H1
      replace c0 := keepO O c0 (by omega)
      replace c1 := keepO O c1 (by omega)
      replace d0 := keepO O d0 (by omega)
      replace d1 := keepO O d1 (by omega)
      replace HY := H1
      replace HX := HX.keep O (by omega) (by omega)
      replace B := mbo B O (by omega)
      clear O H1
      go_wp2_with fail
      rw [← store_comm _ P Q a1 b1 (by simp; omega) (by simp; omega) HD.out] at HY
      have hDl : (storeS (storeS (List.replicate N (0 : Int)) P 4 a1) Q 4 b1).length = N := by simp [storeS_len]
      have hLP : loadS (storeS (storeS (List.replicate N (0 : Int)) P 4 a1) Q 4 b1) P 4 = a1 := by rw [load_store_ne _ _ _ _ (by have := HD.out; omega), load_store _ _ _ (by simp; omega) ha1.1 ha1.2]
      have hLQ : loadS (storeS (storeS (List.replicate N (0 : Int)) P 4 a1) Q 4 b1) Q 4 = b1 := load_store _ _ _ (by simp [storeS_len]; omega) hb1.1 hb1.2
      generalize storeS (storeS (List.replicate N (0 : Int)) P 4 a1) Q 4 b1 = D at HX HY hDl hLP hLQ
      have hDb := HX.bytes
      obtain ⟨n, hn⟩ : ∃ n, N = 4 * n := ⟨N / 4, by omega⟩
      subst hn
      have hq : ((4 * n : Nat) : Int) / 4 = (n : Int) := by omega
      have hsp0 : spanE (4 * n) 0 (n : Int) 4 = 0 := spanE_row (4 * n) 0 n rfl (by omega)
      clear hz hlz
      go_wp2_with fail
      rw [hq]
      refine (words_any _ mx gx D HX 0 (by omega) (by omega) n (by omega)).mono ?_
      rintro e w' ⟨vl, l, he, hl, hown, O⟩
      rw [hDl, hsp0] at he hl
      subst he
      rw [if_pos rfl] at hl
      obtain rfl : l = wordsS D 0 n := hl
      obtain ⟨gl, capl, rfl, hgel, hcl⟩ := own_row hown (by rw [wordsS_len]; omega)
      rw [wordsS_len] at hcl ⊢
      clear hown
      replace HX := HX.keep (Only.of_below (S := fun _ => False) O) id id
      replace HY := HY.keep (Only.of_below (S := fun _ => False) O) id id
      replace c0 := (O.cell (World.block_lt_of_cell? _ _ c0)).trans c0
      replace c1 := (O.cell (World.block_lt_of_cell? _ _ c1)).trans c1
      replace d0 := (O.cell (World.block_lt_of_cell? _ _ d0)).trans d0
      replace d1 := (O.cell (World.block_lt_of_cell? _ _ d1)).trans d1
      replace B := mbt B O
      clear O
      have KL : Hid (RowAt w' gl (wordsS D 0 n) n) := mhid ⟨hgel.2, hcl⟩
      clear hcl hgel
      go_wp2_with fail
      refine (words_any _ my gy D HY 0 (by omega) (by omega) n (by omega)).mono ?_
      rintro e w' ⟨vk, l, he, hl, hown, O⟩
      rw [hDl, hsp0] at he hl
      subst he
      rw [if_pos rfl] at hl
      obtain rfl : l = wordsS D 0 n := hl
      obtain ⟨gk, capk, rfl, hgek, hck⟩ := own_row hown (by rw [wordsS_len]; omega)
      rw [wordsS_len] at hck ⊢
      clear hown
      replace HX := HX.keep (Only.of_below (S := fun _ => False) O) id id
      replace HY := HY.keep (Only.of_below (S := fun _ => False) O) id id
      replace c0 := (O.cell (World.block_lt_of_cell? _ _ c0)).trans c0
      replace c1 := (O.cell (World.block_lt_of_cell? _ _ c1)).trans c1
      replace d0 := (O.cell (World.block_lt_of_cell? _ _ d0)).trans d0
      replace d1 := (O.cell (World.block_lt_of_cell? _ _ d1)).trans d1
      replace B := mbt B O
      replace KL := mhid (KL.out.keep (Only.of_below (S := fun _ => False) O) id)
      clear O
      have KK : Hid (RowAt w' gk (wordsS D 0 n) n) := mhid ⟨hgek.2, hck⟩
      clear hck hgek
      go_wp2_with fail
      refine (load_any _ mx gx D HX P 4 (by omega) (by omega)).mono ?_
      rw [hDl, spanE_word _ _ hP4 hPN, loadV_word D P hP4 (by omega), hLP]
      rintro e w' ⟨rfl, rfl⟩
      go_wp2_with fail
      refine (load_any _ mx gx D HX Q 4 (by omega) (by omega)).mono ?_
      rw [hDl, spanE_word _ _ hQ4 hQN, loadV_word D Q hQ4 (by omega), hLQ]
      rintro e w' ⟨rfl, rfl⟩
      clear HX HY
      go_wp2_with fail
      clear c0 c1 d0 d1 hLP hLQ
      refine (new_ok (4 * n) _ (by omega) (by omega)).mono ?_
      rintro e w' ⟨mz, gz, rfl, hm3, hg3, HZ, O⟩
      have hgl : gl ≠ gz ∧ gk ≠ gz := ⟨by have := KL.out.1; omega, by have := KK.out.1; omega⟩
      have hgz : w.heap.size ≤ gz := Nat.le_trans B.size hg3
      replace KL := mhid (KL.out.keep (Only.of_below (S := fun _ => False) O) id)
      replace KK := mhid (KK.out.keep (Only.of_below (S := fun _ => False) O) id)
      replace B := mbt B O
      clear O hm3 hg3
      go_wp2_with fail
      have hU : U32s (· = gz) w' (.slice (some ⟨gl, 0, none⟩) n capl) (wordsS D 0 n) := by
        refine ⟨wordsS_words hDb 0 n, some ⟨gl, 0, none⟩, capl, by rw [wordsS_len], fun _ => ⟨gl, 0, rfl, hgl.1, KL.out.1, fun k hk => ?_⟩⟩
        rw [Nat.zero_add]; exact KL.out.2 k (by rwa [wordsS_len] at hk)
      refine (put_any _ mz gz _ HZ 0 (by omega) (by omega) _ (wordsS D 0 n) (by rw [wordsS_len]; unfold maxLen; omega) hU).mono ?_
      rintro e w' ⟨he, H1, O, -⟩
      rw [List.length_replicate, wordsS_len, hsp0] at he
      subst he
      have hput : putV (List.replicate (4 * n) (0 : Int)) 0 (wordsS D 0 n) = D := by
        unfold putV; rw [List.length_replicate, wordsS_len, if_pos hsp0]; exact put_all hDb (by simp [hDl]) n hDl
      rw [hput] at H1
      replace KL := mhid (KL.out.keep O hgl.1)
      replace KK := mhid (KK.out.keep O hgl.2)
      replace B := mbo B O hgz
      clear O hput hU HZ
      have KB := mhid B
      have KZ := mhid H1
      clear B H1
      go_wp2_with fail
      go_loopw [24, 25, 26, 27, 28] (fun i _ _ _ _ wr => ∃ j : Nat, j ≤ n ∧ i = .int .i64 j ∧ ∃ q, wr = w'.drewN q) (fun i _ _ _ _ _ => n - (intOf i).toNat)
      case atStart => exact ⟨0, Nat.zero_le _, rfl, 0, rfl⟩
      case round =>
        obtain ⟨j, hj, rfl, q, rfl⟩ := hrel
        have O : Only (fun _ => False) w' (w'.drewN q) := (Only.refl _ w').drewN q
        by_cases hlt : j < n
        · have hjn : (j : Int) < n := by omega
          have HZ := KZ.out.keep O id id
          have cl := KL.out.2 j hlt
          have ck := KK.out.2 j hlt
          rw [wordsS_at D 0 n j hlt, Nat.zero_add] at cl ck
          have L1 := load_any _ mz gz D HZ ((4 * j : Nat) : Int) 4 (by omega) (by omega)
          rw [hDl, spanE_word _ _ (by omega) (by omega), loadV_word D (4 * j) (by omega) (by omega)] at L1
          have L2 := load_any _ mz gz D HZ ((4 * j + 3 : Nat) : Int) 1 (by omega) (by omega)
          rw [hDl, spanE_byte _ _ (by omega), loadV_byte D (4 * j + 3) (by omega), last_byte hDb (4 * j)] at L2
          have hx := loadS_bd hDb (4 * j) 4
          generalize loadS D (4 * j) 4 = x at cl ck L1 L2 hx
          have e1 : ((4 * j : Nat) : Int) = 4 * (j : Int) := by omega
          have e2 : ((4 * j + 3 : Nat) : Int) = 4 * (j : Int) + 3 := by omega
          rw [e1] at L1
          rw [e2] at L2
          replace L1 := mhid L1
          replace L2 := mhid L2
          clear e1 e2 HZ O
          go_wp2_with fail
          refine L1.out.mono ?_
          rintro e w2 ⟨rfl, rfl⟩
          go_wp2_with fail
          refine L2.out.mono ?_
          rintro e w2 ⟨rfl, rfl⟩
          go_wp2_with fail
          go_quiet (fail)
          go_wp2_with fail
          exact ⟨⟨j + 1, by omega, by go_num, _, rfl⟩, by simp [intOf] <;> omega⟩
        · obtain rfl : j = n := by omega
          clear O
          go_wp2_with fail
          refine (mhead_any _).mono ?_
          rintro e w2 ⟨rfl, B2⟩
          go_wp2_with fail
          go_ret
          exact ⟨rfl, mbt (below_drewN KB.out q) B2⟩
end Go.Proofs.Ytkokdcbnnihkaaa
