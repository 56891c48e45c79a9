/- The walks of the package mem. -/
import Derived.Test.YtilegepenibeoaaProg
import Derived.Test.YtilegepenibeoaaMemSpec
import Derived.Handy
import Derived.WalkLawsBesides
namespace Go.Proofs.Ytilegepenibeoaa
open Go.RowKit
set_option linter.unusedVariables false
theorem mhid {p : Prop} (h : p) : Hid p := h
theorem mret_val {a b : Value} (h : a = b) : Ending.returned a = .returned b := by rw [h]
theorem mret_i {k : IntKind} {a b : Int} (h : a = b) : Ending.returned (.int k a) = .returned (.int k b) := by rw [h]
theorem mret_ii {k j : IntKind} {a b c d : Int} (h : a = b) (g : c = d) : Ending.returned (.tuple #[.int k a, .int j c]) = .returned (.tuple #[.int k b, .int j d]) := by rw [h, g]
/-- The two cells of a memory's struct. -/
theorem MemAt.cells {w : World} {m g : Nat} {d : List Int} (h : MemAt w m g d) : ∃ cap, w.cell? ⟨m, 0, none⟩ = some (.slice (some ⟨g, 0, none⟩) d.length cap) ∧ w.cell? ⟨m, 1, none⟩ = some (.bool true) ∧ d.length ≤ cap ∧ cap ≤ maxLen := by
  obtain ⟨⟨cap, h1, h2⟩, _⟩ := h
  exact ⟨cap, by rw [cell_of_obj h1]; rfl, by rw [cell_of_obj h1]; rfl, h2⟩
theorem none_nil (w : World) : Calls Try.prog 25 #[.pointer none] w fun e w' => e = .returned (.bool true) ∧ w = w' := by
  go_enter Try.func25, Try.ntmps25
  go_wp2
  go_ret
  exact ⟨rfl, rfl⟩
theorem none_unmade (w : World) (m : Nat) (h : w.cell? ⟨m, 1, none⟩ = some (.bool false)) : Calls Try.prog 25 #[.pointer (some ⟨m, 0, none⟩)] w fun e w' => e = .returned (.bool true) ∧ w = w' := by
  go_enter Try.func25, Try.ntmps25
  go_wp2
  go_ret
  exact ⟨rfl, rfl⟩
theorem none_made (w : World) (m : Nat) (h : w.cell? ⟨m, 1, none⟩ = some (.bool true)) : Calls Try.prog 25 #[.pointer (some ⟨m, 0, none⟩)] w fun e w' => e = .returned (.bool false) ∧ w = w' := by
  go_enter Try.func25, Try.ntmps25
  go_wp2
  go_ret
  exact ⟨rfl, rfl⟩
/-- The slice that span hands out: n bytes from a on. -/
def SpanV (g a n : Nat) (v : Value) : Prop := ∃ b, v = .slice (some ⟨g, b, none⟩) n n ∧ (n = 0 ∨ b = a)
def SpanOk (g a n : Nat) (w : World) (e : Ending) (w' : World) : Prop := (∃ v, e = .returned (.tuple #[v, .int .i64 0]) ∧ SpanV g a n v) ∧ w = w'
theorem spanV_of {g a b n n' : Nat} (h1 : n' = n) (h2 : n = 0 ∨ b = a) : SpanV g a n (.slice (some ⟨g, b, none⟩) n' n') := by subst h1; exact ⟨b, rfl, h2⟩

set_option maxHeartbeats 400000 in
theorem span_ok1 (w : World) (m g : Nat) (d : List Int) (h : MemAt w m g d) (a : Int) (many : Int) (ha : 0 ≤ a) (ha2 : a < 4294967296) (hm : 0 ≤ many) (hr : a + 1 * many ≤ d.length) :
    Calls Try.prog 27 #[.pointer (some ⟨m, 0, none⟩), .int .u32 a, .int .i64 many, .int .i64 1] w (SpanOk g a.toNat (many).toNat w) := by
  obtain ⟨cap, c0, c1, hcap, hcap2⟩ := h.cells
  have hlen := h.len
  unfold maxLen at hcap2
  clear h
  have hn := none_made w m c1
  go_enter Try.func27, Try.ntmps27
  go_wp2_with fail
  refine hn.mono ?_
  rintro e w' ⟨rfl, rfl⟩
  go_wp2_with fail
  all_goals
    go_ret2
    refine ⟨⟨_, rfl, ?_⟩, rfl⟩
    exact spanV_of (by omega) (by omega)

set_option maxHeartbeats 400000 in
theorem span_ok4 (w : World) (m g : Nat) (d : List Int) (h : MemAt w m g d) (a : Int) (many : Int) (ha : 0 ≤ a) (ha2 : a < 4294967296) (hm : 0 ≤ many) (hr : a + 4 * many ≤ d.length) (hal : a % 4 = 0) :
    Calls Try.prog 27 #[.pointer (some ⟨m, 0, none⟩), .int .u32 a, .int .i64 many, .int .i64 4] w (SpanOk g a.toNat (4 * many).toNat w) := by
  obtain ⟨cap, c0, c1, hcap, hcap2⟩ := h.cells
  have hlen := h.len
  unfold maxLen at hcap2
  clear h
  have hn := none_made w m c1
  go_enter Try.func27, Try.ntmps27
  go_wp2_with fail
  refine hn.mono ?_
  rintro e w' ⟨rfl, rfl⟩
  go_wp2_with fail
  all_goals
    go_ret2
    refine ⟨⟨_, rfl, ?_⟩, rfl⟩
    exact spanV_of (by omega) (by omega)

set_option maxHeartbeats 400000 in
theorem span_neg (w : World) (m g : Nat) (d : List Int) (h : MemAt w m g d) (a : Int) (many : Int) (ha : 0 ≤ a) (ha2 : a < 4294967296) (bytes : Int) (hm : many < 0) :
    Calls Try.prog 27 #[.pointer (some ⟨m, 0, none⟩), .int .u32 a, .int .i64 many, .int .i64 bytes] w (fun e w' => e = .returned (.tuple #[.slice none 0 0, .int .i64 2]) ∧ w = w') := by
  obtain ⟨cap, c0, c1, hcap, hcap2⟩ := h.cells
  have hlen := h.len
  unfold maxLen at hcap2
  clear h
  have hn := none_made w m c1
  go_enter Try.func27, Try.ntmps27
  go_wp2_with fail
  refine hn.mono ?_
  rintro e w' ⟨rfl, rfl⟩
  go_wp2_with fail
  go_ret2
  exact ⟨rfl, rfl⟩

set_option maxHeartbeats 400000 in
theorem span_bad (w : World) (m g : Nat) (d : List Int) (h : MemAt w m g d) (a : Int) (many : Int) (ha : 0 ≤ a) (ha2 : a < 4294967296) (bytes : Int) (hm : 0 ≤ many) (hb : bytes ≠ 1 ∧ bytes ≠ 4) :
    Calls Try.prog 27 #[.pointer (some ⟨m, 0, none⟩), .int .u32 a, .int .i64 many, .int .i64 bytes] w (fun e w' => e = .returned (.tuple #[.slice none 0 0, .int .i64 2]) ∧ w = w') := by
  have h1 : (bytes == 1) = false := by simpa using hb.1
  have h2 : (bytes == 4) = false := by simpa using hb.2
  have h3 : (bytes != 1) = true := by simpa using hb.1
  have h4 : (bytes != 4) = true := by simpa using hb.2
  obtain ⟨cap, c0, c1, hcap, hcap2⟩ := h.cells
  have hlen := h.len
  unfold maxLen at hcap2
  clear h
  have hn := none_made w m c1
  go_enter Try.func27, Try.ntmps27
  go_wp2_with fail
  refine hn.mono ?_
  rintro e w' ⟨rfl, rfl⟩
  go_wp2_with fail
  go_ret2
  exact ⟨rfl, rfl⟩

set_option maxHeartbeats 400000 in
theorem span_align (w : World) (m g : Nat) (d : List Int) (h : MemAt w m g d) (a : Int) (many : Int) (ha : 0 ≤ a) (ha2 : a < 4294967296) (hm : 0 ≤ many) (hal : ¬ a % 4 = 0) :
    Calls Try.prog 27 #[.pointer (some ⟨m, 0, none⟩), .int .u32 a, .int .i64 many, .int .i64 4] w (fun e w' => e = .returned (.tuple #[.slice none 0 0, .int .i64 51]) ∧ w = w') := by
  obtain ⟨cap, c0, c1, hcap, hcap2⟩ := h.cells
  have hlen := h.len
  unfold maxLen at hcap2
  clear h
  have hn := none_made w m c1
  go_enter Try.func27, Try.ntmps27
  go_wp2_with fail
  refine hn.mono ?_
  rintro e w' ⟨rfl, rfl⟩
  go_wp2_with fail
  go_ret2
  exact ⟨rfl, rfl⟩

set_option maxHeartbeats 400000 in
theorem span_range1 (w : World) (m g : Nat) (d : List Int) (h : MemAt w m g d) (a : Int) (many : Int) (ha : 0 ≤ a) (ha2 : a < 4294967296) (hm : 0 ≤ many) (hm3 : many ≤ 9223372036854775807) (hr : (d.length : Int) < a + 1 * many) :
    Calls Try.prog 27 #[.pointer (some ⟨m, 0, none⟩), .int .u32 a, .int .i64 many, .int .i64 1] w (fun e w' => e = .returned (.tuple #[.slice none 0 0, .int .i64 50]) ∧ w = w') := by
  obtain ⟨cap, c0, c1, hcap, hcap2⟩ := h.cells
  have hlen := h.len
  unfold maxLen at hcap2
  clear h
  have hn := none_made w m c1
  by_cases hx : (d.length : Int) < a
  · have hx1 : decide ((d.length : Int) < a) = true := by simpa using hx
    go_enter Try.func27, Try.ntmps27
    go_wp2_with fail
    refine hn.mono ?_
    rintro e w' ⟨rfl, rfl⟩
    go_wp2_with fail
    go_ret2
    exact ⟨rfl, rfl⟩
  · have hx1 : decide ((d.length : Int) < a) = false := by simpa using hx
    have hx2 : ((d.length : Int) - a) / 1 < many := by omega
    go_enter Try.func27, Try.ntmps27
    go_wp2_with fail
    refine hn.mono ?_
    rintro e w' ⟨rfl, rfl⟩
    go_wp2_with fail
    go_ret2
    exact ⟨rfl, rfl⟩

set_option maxHeartbeats 400000 in
theorem span_range4 (w : World) (m g : Nat) (d : List Int) (h : MemAt w m g d) (a : Int) (many : Int) (ha : 0 ≤ a) (ha2 : a < 4294967296) (hm : 0 ≤ many) (hal : a % 4 = 0) (hm3 : many ≤ 9223372036854775807) (hr : (d.length : Int) < a + 4 * many) :
    Calls Try.prog 27 #[.pointer (some ⟨m, 0, none⟩), .int .u32 a, .int .i64 many, .int .i64 4] w (fun e w' => e = .returned (.tuple #[.slice none 0 0, .int .i64 50]) ∧ w = w') := by
  obtain ⟨cap, c0, c1, hcap, hcap2⟩ := h.cells
  have hlen := h.len
  unfold maxLen at hcap2
  clear h
  have hn := none_made w m c1
  by_cases hx : (d.length : Int) < a
  · have hx1 : decide ((d.length : Int) < a) = true := by simpa using hx
    go_enter Try.func27, Try.ntmps27
    go_wp2_with fail
    refine hn.mono ?_
    rintro e w' ⟨rfl, rfl⟩
    go_wp2_with fail
    go_ret2
    exact ⟨rfl, rfl⟩
  · have hx1 : decide ((d.length : Int) < a) = false := by simpa using hx
    have hx2 : ((d.length : Int) - a) / 4 < many := by omega
    go_enter Try.func27, Try.ntmps27
    go_wp2_with fail
    refine hn.mono ?_
    rintro e w' ⟨rfl, rfl⟩
    go_wp2_with fail
    go_ret2
    exact ⟨rfl, rfl⟩

set_option maxHeartbeats 400000 in
theorem span_nil (w : World) (a many bytes : Int) :
    Calls Try.prog 27 #[.pointer none, .int .u32 a, .int .i64 many, .int .i64 bytes] w (fun e w' => e = .returned (.tuple #[.slice none 0 0, .int .i64 1]) ∧ w = w') := by
  have hn := none_nil w
  go_enter Try.func27, Try.ntmps27
  go_wp2_with fail
  refine hn.mono ?_
  rintro e w' ⟨rfl, rfl⟩
  go_wp2_with fail
  go_ret2
  exact ⟨rfl, rfl⟩

set_option maxHeartbeats 400000 in
theorem span_unmade (w : World) (m : Nat) (h : w.cell? ⟨m, 1, none⟩ = some (.bool false)) (a many bytes : Int) :
    Calls Try.prog 27 #[.pointer (some ⟨m, 0, none⟩), .int .u32 a, .int .i64 many, .int .i64 bytes] w (fun e w' => e = .returned (.tuple #[.slice none 0 0, .int .i64 1]) ∧ w = w') := by
  have hn := none_unmade w m h
  go_enter Try.func27, Try.ntmps27
  go_wp2_with fail
  refine hn.mono ?_
  rintro e w' ⟨rfl, rfl⟩
  go_wp2_with fail
  go_ret2
  exact ⟨rfl, rfl⟩
end Go.Proofs.Ytilegepenibeoaa
