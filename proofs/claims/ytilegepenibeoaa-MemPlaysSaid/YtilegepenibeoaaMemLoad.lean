/- The walks of mem.word and mem.lay, and of loads and stores. -/
import Derived.Test.YtilegepenibeoaaMemWalks
namespace Go.Proofs.Ytilegepenibeoaa
open Go.RowKit
set_option linter.unusedVariables false
/-- The word of the first k bytes from a on. -/
def beS (d : List Int) (a : Nat) : Nat → Int
  | 0 => 0
  | k + 1 => beS d a k * 256 + d.getD (a + k) 0
theorem beS_bd {d : List Int} (h : Bytes d) (a : Nat) : ∀ k, k ≤ 4 → 0 ≤ beS d a k ∧ beS d a k < 4294967296 ∧ (k ≤ 3 → beS d a k < 16777216) := by
  intro k hk
  have h0 := h.at a; have h1 := h.at (a + 1); have h2 := h.at (a + 2); have h3 := h.at (a + 3)
  have hc : k = 0 ∨ k = 1 ∨ k = 2 ∨ k = 3 ∨ k = 4 := by omega
  rcases hc with rfl | rfl | rfl | rfl | rfl <;> simp only [beS, Nat.add_zero] <;> omega
theorem beS_one (d : List Int) (a : Nat) : beS d a 1 = loadS d a 1 := by simp [beS, loadS]
theorem beS_four (d : List Int) (a : Nat) : beS d a 4 = loadS d a 4 := by simp [beS, loadS]
theorem or_byte (X x : Int) (h : 0 ≤ X) (h2 : X < 16777216) (k : 0 ≤ x) (k2 : x < 256) : bits .or .u32 (X * 256) x = X * 256 + x := by
  rw [u32_or _ _ (by omega) (by omega) k (by omega)]
  obtain ⟨A, rfl⟩ := Int.eq_ofNat_of_zero_le h
  obtain ⟨B, rfl⟩ := Int.eq_ofNat_of_zero_le k
  have e : ((A : Int) * 256).toNat = A * 256 := by omega
  rw [e, Int.toNat_natCast, nat_join 8 (A * 256) B (by omega) (by omega)]; omega
theorem word_none (p : Option Addr) (c : Nat) (w : World) : Calls Try.prog 30 #[.slice p 0 c] w fun e w' => e = .returned (.int .u32 0) ∧ w = w' := by
  go_enter Try.func30, Try.ntmps30
  go_wp2
  go_rounds 1
  go_ret
  exact ⟨rfl, rfl⟩
set_option maxHeartbeats 400000 in
theorem word_any (w : World) (m g : Nat) (d : List Int) (h : MemAt w m g d) (a n c : Nat) (hn : n ≤ 4) (hr : a + n ≤ d.length) :
    Calls Try.prog 30 #[.slice (some ⟨g, a, none⟩) n c] w fun e w' => e = .returned (.int .u32 (beS d a n)) ∧ w = w' := by
  go_enter Try.func30, Try.ntmps30
  go_wp2
  go_loop [3, 4, 7] (fun x _ i => ∃ k : Nat, k ≤ n ∧ i = .int .i64 k ∧ x = .int .u32 (beS d a k)) (fun _ _ i => n - (intOf i).toNat)
  case atStart => exact ⟨0, Nat.zero_le _, rfl, rfl⟩
  case round =>
    obtain ⟨k, hk, rfl, rfl⟩ := hrel
    by_cases hlt : k < n
    · have hcell := h.byte (i := a + k) (by omega)
      have hb := beS_bd h.bytes a k (by omega)
      have hb3 := hb.2.2 (by omega)
      have hx := h.bytes.at (a + k)
      have ho := or_byte (beS d a k) _ hb.1 hb3 hx.1 hx.2
      rw [List.getD_eq_getElem?_getD] at hcell hx ho
      clear h
      go_wp2
      refine ⟨⟨k + 1, by omega, by go_num, ?_⟩, by simp [intOf] <;> omega⟩
      simp [beS]
    · obtain rfl : k = n := by omega
      clear h
      go_wp2
      go_ret
      exact ⟨rfl, rfl⟩
theorem lay_none (p : Option Addr) (c : Nat) (x : Int) (w : World) : Calls Try.prog 28 #[.slice p 0 c, .int .u32 x] w fun e w' => e = .returned (.tuple #[]) ∧ w = w' := by
  go_enter Try.func28, Try.ntmps28
  go_wp2
  go_rounds 1
  go_end0
  exact ⟨rfl, rfl⟩
set_option maxHeartbeats 400000 in
theorem lay_one (w : World) (m g : Nat) (d : List Int) (h : MemAt w m g d) (a c : Nat) (x : Int) (hx : 0 ≤ x) (hx2 : x < 4294967296) (hr : a + 1 ≤ d.length) :
    Calls Try.prog 28 #[.slice (some ⟨g, a, none⟩) 1 c, .int .u32 x] w fun e w' => e = .returned (.tuple #[]) ∧ w.setCell ⟨g, a, none⟩ (.int .u8 (x % 256)) = w' := by
  have hc := h.byte (i := a) (by omega)
  have hf := h.free a
  clear h
  go_enter Try.func28, Try.ntmps28
  go_wp2
  go_rounds 2
  go_end0
  exact ⟨rfl, rfl⟩

def laid4 (w : World) (g a : Nat) (x : Int) : World :=
  (((w.setCell ⟨g, a + 3, none⟩ (.int .u8 (x % 256))).setCell ⟨g, a + 2, none⟩ (.int .u8 (x / 256 % 256))).setCell ⟨g, a + 1, none⟩ (.int .u8 (x / 65536 % 256))).setCell ⟨g, a, none⟩ (.int .u8 (x / 16777216 % 256))
set_option maxHeartbeats 400000 in
theorem lay_four (w : World) (m g : Nat) (d : List Int) (h : MemAt w m g d) (a c : Nat) (x : Int) (hx : 0 ≤ x) (hx2 : x < 4294967296) (hr : a + 4 ≤ d.length) :
    Calls Try.prog 28 #[.slice (some ⟨g, a, none⟩) 4 c, .int .u32 x] w fun e w' => e = .returned (.tuple #[]) ∧ laid4 w g a x = w' := by
  have hc := h.byte (i := a) (by omega)
  have hc1 := h.byte (i := a + 1) (by omega)
  have hc2 := h.byte (i := a + 2) (by omega)
  have hc3 := h.byte (i := a + 3) (by omega)
  have hf := h.free a
  have hf1 := h.free (a + 1)
  have hf2 := h.free (a + 2)
  have hf3 := h.free (a + 3)
  clear h
  go_enter Try.func28, Try.ntmps28
  go_wp2
  go_rounds 5
  go_end0
  exact ⟨rfl, by unfold laid4; rw [show x / 16777216 % 256 = x / 16777216 by omega]⟩
theorem MemAt.laid4 {w : World} {m g : Nat} {d : List Int} (h : MemAt w m g d) {a : Nat} {x : Int} (hr : a + 4 ≤ d.length) : MemAt (laid4 w g a x) m g (storeS d a 4 x) := by
  have h1 := h.set (i := a + 3) (x := x % 256) (by omega) (by omega)
  have h2 := h1.set (i := a + 2) (x := x / 256 % 256) (by simp; omega) (by omega)
  have h3 := h2.set (i := a + 1) (x := x / 65536 % 256) (by simp; omega) (by omega)
  have h4 := h3.set (i := a) (x := x / 16777216 % 256) (by simp; omega) (by omega)
  exact h4
theorem laid4_only (w : World) (g a : Nat) (x : Int) : Only (· = g) w (laid4 w g a x) :=
  (((((Only.refl (· = g) w).setCell (p := ⟨g, a + 3, none⟩) rfl _).setCell (p := ⟨g, a + 2, none⟩) rfl _).setCell (p := ⟨g, a + 1, none⟩) rfl _).setCell (p := ⟨g, a, none⟩) rfl _)
/-- What a load answers: the word, the error. -/
def loadV (d : List Int) (a many : Int) : Int := if spanE d.length a 1 many = 0 then loadS d a.toNat many.toNat else 0
def storeV (d : List Int) (a many x : Int) : List Int := if spanE d.length a 1 many = 0 then storeS d a.toNat many.toNat x else d
theorem spanE_ok {n : Nat} {a many bytes : Int} (h : spanE n a many bytes = 0) (ha : 0 ≤ a) : 0 ≤ many ∧ (bytes = 1 ∨ bytes = 4) ∧ a % bytes = 0 ∧ a + bytes * many ≤ n := by
  unfold spanE at h
  by_cases h1 : many < 0 ∨ (bytes ≠ 1 ∧ bytes ≠ 4)
  · rw [if_pos h1] at h; omega
  · rw [if_neg h1] at h
    by_cases h2 : a % bytes ≠ 0
    · rw [if_pos h2] at h; omega
    · rw [if_neg h2] at h
      by_cases h3 : (n : Int) < a ∨ (((n : Int) - a) / bytes < many)
      · rw [if_pos h3] at h; omega
      · have hb : bytes = 1 ∨ bytes = 4 := by omega
        refine ⟨by omega, hb, by omega, ?_⟩
        rcases hb with rfl | rfl <;> omega
/-- What span answers, whatever it is asked. -/
def SpanAny (g n : Nat) (a many bytes : Int) (w : World) (e : Ending) (w' : World) : Prop :=
  (spanE n a many bytes = 0 ∧ SpanOk g a.toNat (bytes * many).toNat w e w') ∨ (spanE n a many bytes ≠ 0 ∧ e = .returned (.tuple #[.slice none 0 0, .int .i64 (spanE n a many bytes)]) ∧ w = w')
theorem span_any (w : World) (m g : Nat) (d : List Int) (h : MemAt w m g d) (a : Int) (many bytes : Int) (ha : 0 ≤ a) (ha2 : a < 4294967296) (hm3 : many ≤ 9223372036854775807) :
    Calls Try.prog 27 #[.pointer (some ⟨m, 0, none⟩), .int .u32 a, .int .i64 many, .int .i64 bytes] w (SpanAny g d.length a many bytes w) := by
  by_cases h1 : many < 0
  · refine (span_neg w m g d h a many ha ha2 bytes h1).mono ?_
    rintro e w' ⟨he, hw⟩
    exact .inr (by rw [show spanE d.length a many bytes = 2 from if_pos (.inl h1)]; exact ⟨by omega, he, hw⟩)
  · by_cases h2 : bytes ≠ 1 ∧ bytes ≠ 4
    · refine (span_bad w m g d h a many ha ha2 bytes (by omega) h2).mono ?_
      rintro e w' ⟨he, hw⟩
      exact .inr (by rw [show spanE d.length a many bytes = 2 from if_pos (.inr h2)]; exact ⟨by omega, he, hw⟩)
    · have hb : bytes = 1 ∨ bytes = 4 := by omega
      have e0 : spanE d.length a many bytes = if a % bytes ≠ 0 then 51 else if (d.length : Int) < a ∨ (((d.length : Int) - a) / bytes < many) then 50 else 0 := if_neg (by omega)
      by_cases h3 : a % bytes ≠ 0
      · obtain rfl : bytes = 4 := by rcases hb with rfl | rfl <;> omega
        refine (span_align w m g d h a many ha ha2 (by omega) h3).mono ?_
        rintro e w' ⟨he, hw⟩
        exact .inr (by rw [e0, if_pos h3]; exact ⟨by omega, he, hw⟩)
      · rw [if_neg h3] at e0
        by_cases h4 : (d.length : Int) < a ∨ (((d.length : Int) - a) / bytes < many)
        · rw [if_pos h4] at e0
          rcases hb with rfl | rfl
          · refine (span_range1 w m g d h a many ha ha2 (by omega) hm3 (by omega)).mono ?_
            rintro e w' ⟨he, hw⟩
            exact .inr (by rw [e0]; exact ⟨by omega, he, hw⟩)
          · refine (span_range4 w m g d h a many ha ha2 (by omega) (by omega) hm3 (by omega)).mono ?_
            rintro e w' ⟨he, hw⟩
            exact .inr (by rw [e0]; exact ⟨by omega, he, hw⟩)
        · rw [if_neg h4] at e0
          rcases hb with rfl | rfl
          · refine (span_ok1 w m g d h a many ha ha2 (by omega) (by omega)).mono ?_
            rintro e w' hs
            rw [show many.toNat = (1 * many).toNat by omega] at hs
            exact .inl ⟨e0, hs⟩
          · refine (span_ok4 w m g d h a many ha ha2 (by omega) (by omega) (by omega)).mono ?_
            rintro e w' hs
            exact .inl ⟨e0, hs⟩
set_option maxHeartbeats 400000 in
theorem load_any (w : World) (m g : Nat) (d : List Int) (h : MemAt w m g d) (a : Int) (many : Int) (ha : 0 ≤ a) (ha2 : a < 4294967296) :
    Calls Try.prog 17 #[.pointer (some ⟨m, 0, none⟩), .int .u32 a, .int .i64 many] w fun e w' => e = .returned (.tuple #[.int .u32 (loadV d a many), .int .i64 (spanE d.length a 1 many)]) ∧ w = w' := by
  have hs := span_any w m g d h a 1 many ha ha2 (by omega)
  have HS := mhid hs
  have H := mhid h
  clear hs h
  go_enter Try.func17, Try.ntmps17
  go_wp2_with fail
  refine HS.out.mono ?_
  rintro e w' (⟨he, ⟨v, rfl, b, rfl, hb⟩, rfl⟩ | ⟨he, rfl, rfl⟩)
  · obtain ⟨_, h4, _, h5⟩ := spanE_ok he ha
    have hb2 : b = a.toNat := by omega
    subst hb2
    clear hb HS
    have HE := mhid he
    clear he
    rcases h4 with rfl | rfl
    all_goals
      go_wp2_with fail
      refine (word_any _ m g d H.out a.toNat _ _ (by omega) (by omega)).mono ?_
      rintro e w' ⟨rfl, rfl⟩
      go_wp2_with fail
      go_ret2
      refine ⟨mret_ii ?_ HE.out.symm, rfl⟩
      rw [show loadV d a _ = loadS d a.toNat _ from if_pos HE.out]
      first | exact beS_one d a.toNat | exact beS_four d a.toNat
  · have e0 : loadV d a many = 0 := if_neg he
    have E0 := mhid e0
    clear e0 HS H
    go_wp2_with fail
    refine (word_none _ _ _).mono ?_
    rintro e w' ⟨rfl, rfl⟩
    go_wp2_with fail
    go_ret2
    exact ⟨mret_ii E0.out.symm rfl, rfl⟩

/-- What a store does. -/
def Stores (m g : Nat) (d : List Int) (a many x : Int) (w : World) (e : Ending) (w' : World) : Prop :=
  e = .returned (.int .i64 (spanE d.length a 1 many)) ∧ MemAt w' m g (storeV d a many x) ∧ Only (· = g) w w' ∧ w'.heap.size = w.heap.size
set_option maxHeartbeats 400000 in
theorem store_any (w : World) (m g : Nat) (d : List Int) (h : MemAt w m g d) (a : Int) (many : Int) (ha : 0 ≤ a) (ha2 : a < 4294967296) (x : Int) (hx : 0 ≤ x) (hx2 : x < 4294967296) :
    Calls Try.prog 11 #[.pointer (some ⟨m, 0, none⟩), .int .u32 a, .int .i64 many, .int .u32 x] w (Stores m g d a many x w) := by
  have hs := span_any w m g d h a 1 many ha ha2 (by omega)
  have HS := mhid hs
  have H := mhid h
  clear hs h
  go_enter Try.func11, Try.ntmps11
  go_wp2_with fail
  refine HS.out.mono ?_
  rintro e w' (⟨he, ⟨v, rfl, b, rfl, hb⟩, rfl⟩ | ⟨he, rfl, rfl⟩)
  · obtain ⟨_, h4, _, h5⟩ := spanE_ok he ha
    have hb2 : b = a.toNat := by omega
    subst hb2
    clear hb HS
    have HE := mhid he
    clear he
    rcases h4 with rfl | rfl
    · go_wp2_with fail
      refine (lay_one _ m g d H.out a.toNat _ x hx hx2 (by omega)).mono ?_
      rintro e w' ⟨rfl, rfl⟩
      go_wp2_with fail
      go_ret
      refine ⟨mret_i HE.out.symm, ?_, (Only.refl (· = g) w).setCell (p := ⟨g, a.toNat, none⟩) rfl _, by simp⟩
      rw [show storeV d a 1 x = storeS d a.toNat (1 : Int).toNat x from if_pos HE.out]
      exact H.out.set (by omega) (by omega)
    · go_wp2_with fail
      refine (lay_four _ m g d H.out a.toNat _ x hx hx2 (by omega)).mono ?_
      rintro e w' ⟨rfl, rfl⟩
      go_wp2_with fail
      go_ret
      refine ⟨mret_i HE.out.symm, ?_, laid4_only _ _ _ _, by simp [laid4]⟩
      rw [show storeV d a 4 x = storeS d a.toNat (4 : Int).toNat x from if_pos HE.out]
      exact H.out.laid4 (by omega)
  · have e0 : storeV d a many x = d := if_neg he
    have E0 := mhid e0
    clear e0 HS
    go_wp2_with fail
    refine (lay_none _ _ _ _).mono ?_
    rintro e w' ⟨rfl, rfl⟩
    go_wp2_with fail
    go_ret
    exact ⟨mret_i rfl, by rw [E0.out]; exact H.out, Only.refl _ _, rfl⟩
/-! A memory that is none. -/

set_option maxHeartbeats 400000 in
theorem load_nil (w : World) (a many : Int) : Calls Try.prog 17 #[.pointer none, .int .u32 a, .int .i64 many] w fun e w' => e = .returned (.tuple #[.int .u32 0, .int .i64 1]) ∧ w = w' := by
  have hs := span_nil w a 1 many
  go_enter Try.func17, Try.ntmps17
  go_wp2_with fail
  refine hs.mono ?_
  rintro e w' ⟨rfl, rfl⟩
  go_wp2_with fail
  refine (word_none _ _ _).mono ?_
  rintro e w' ⟨rfl, rfl⟩
  go_wp2_with fail
  go_ret2
  exact ⟨rfl, rfl⟩
set_option maxHeartbeats 400000 in
theorem store_nil (w : World) (a many x : Int) : Calls Try.prog 11 #[.pointer none, .int .u32 a, .int .i64 many, .int .u32 x] w fun e w' => e = .returned (.int .i64 1) ∧ w = w' := by
  have hs := span_nil w a 1 many
  go_enter Try.func11, Try.ntmps11
  go_wp2_with fail
  refine hs.mono ?_
  rintro e w' ⟨rfl, rfl⟩
  go_wp2_with fail
  refine (lay_none _ _ _ _).mono ?_
  rintro e w' ⟨rfl, rfl⟩
  go_wp2_with fail
  go_ret
  exact ⟨rfl, rfl⟩
theorem size_nil (w : World) : Calls Try.prog 8 #[.pointer none] w fun e w' => e = .returned (.int .i64 0) ∧ w = w' := by
  have hn := none_nil w
  go_enter Try.func8, Try.ntmps8
  go_wp2_with fail
  refine hn.mono ?_
  rintro e w' ⟨rfl, rfl⟩
  go_wp2_with fail
  go_ret
  exact ⟨rfl, rfl⟩
theorem copy_nil (w : World) : Calls Try.prog 9 #[.pointer none] w fun e w' => e = .returned (.pointer none) ∧ w = w' := by
  have hn := none_nil w
  go_enter Try.func9, Try.ntmps9
  go_wp2_with fail
  refine hn.mono ?_
  rintro e w' ⟨rfl, rfl⟩
  go_wp2_with fail
  go_ret
  exact ⟨rfl, rfl⟩

set_option maxHeartbeats 400000 in
theorem load_unmade (w : World) (m : Nat) (h : w.cell? ⟨m, 1, none⟩ = some (.bool false)) (a many : Int) : Calls Try.prog 17 #[.pointer (some ⟨m, 0, none⟩), .int .u32 a, .int .i64 many] w fun e w' => e = .returned (.tuple #[.int .u32 0, .int .i64 1]) ∧ w = w' := by
  have hs := span_unmade w m h a 1 many
  go_enter Try.func17, Try.ntmps17
  go_wp2_with fail
  refine hs.mono ?_
  rintro e w' ⟨rfl, rfl⟩
  go_wp2_with fail
  refine (word_none _ _ _).mono ?_
  rintro e w' ⟨rfl, rfl⟩
  go_wp2_with fail
  go_ret2
  exact ⟨rfl, rfl⟩
set_option maxHeartbeats 400000 in
theorem store_unmade (w : World) (m : Nat) (h : w.cell? ⟨m, 1, none⟩ = some (.bool false)) (a many x : Int) : Calls Try.prog 11 #[.pointer (some ⟨m, 0, none⟩), .int .u32 a, .int .i64 many, .int .u32 x] w fun e w' => e = .returned (.int .i64 1) ∧ w = w' := by
  have hs := span_unmade w m h a 1 many
  go_enter Try.func11, Try.ntmps11
  go_wp2_with fail
  refine hs.mono ?_
  rintro e w' ⟨rfl, rfl⟩
  go_wp2_with fail
  refine (lay_none _ _ _ _).mono ?_
  rintro e w' ⟨rfl, rfl⟩
  go_wp2_with fail
  go_ret
  exact ⟨rfl, rfl⟩
theorem size_unmade (w : World) (m : Nat) (h : w.cell? ⟨m, 1, none⟩ = some (.bool false)) : Calls Try.prog 8 #[.pointer (some ⟨m, 0, none⟩)] w fun e w' => e = .returned (.int .i64 0) ∧ w = w' := by
  have hn := none_unmade w m h
  go_enter Try.func8, Try.ntmps8
  go_wp2_with fail
  refine hn.mono ?_
  rintro e w' ⟨rfl, rfl⟩
  go_wp2_with fail
  go_ret
  exact ⟨rfl, rfl⟩
theorem copy_unmade (w : World) (m : Nat) (h : w.cell? ⟨m, 1, none⟩ = some (.bool false)) : Calls Try.prog 9 #[.pointer (some ⟨m, 0, none⟩)] w fun e w' => e = .returned (.pointer none) ∧ w = w' := by
  have hn := none_unmade w m h
  go_enter Try.func9, Try.ntmps9
  go_wp2_with fail
  refine hn.mono ?_
  rintro e w' ⟨rfl, rfl⟩
  go_wp2_with fail
  go_ret
  exact ⟨rfl, rfl⟩

theorem size_any (w : World) (m g : Nat) (d : List Int) (h : MemAt w m g d) : Calls Try.prog 8 #[.pointer (some ⟨m, 0, none⟩)] w fun e w' => e = .returned (.int .i64 d.length) ∧ w = w' := by
  obtain ⟨cap, c0, c1, hcap, hcap2⟩ := h.cells
  have hn := none_made w m c1
  clear h
  go_enter Try.func8, Try.ntmps8
  go_wp2_with fail
  refine hn.mono ?_
  rintro e w' ⟨rfl, rfl⟩
  go_wp2_with fail
  go_ret
  exact ⟨rfl, rfl⟩
end Go.Proofs.Ytilegepenibeoaa
