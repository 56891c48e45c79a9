/- Several texts in one: Row32, MemWalks, MemLoad, MemMake, MemKeepsLaw, MemPut, MemWords, MemApartLaw. -/
import Derived.Test.YtgdebchbdmogcaaGreatDoorGA
import Derived.Test.YtgdebchbdmogcaaGreatDoorProg
import Derived.Handy
import Derived.WalkLawsBesides
import Derived.Deep.QuietTactic
import Derived.BigQuiet
import Derived.StillTailTactics
/- The walk of muntinref03.Same: are two rows of words the same? -/
namespace Go.Proofs.YtgdebchbdmogcaaGreatDoor
open Go.RowKit
set_option linter.unusedVariables false
/-- A row of words, as it is read. -/
def Reads32 (w : World) (v : Value) (l : List Int) : Prop :=
  l.length ≤ maxLen ∧ ∃ p c, v = .slice p l.length c ∧ (0 < l.length → ∃ b o, p = some ⟨b, o, none⟩ ∧ ∀ k, k < l.length → w.cell? ⟨b, o + k, none⟩ = some (.int .u32 (l.getD k 0)))
theorem Reads32.shape {w : World} {v : Value} {l : List Int} (h : Reads32 w v l) : ∃ b o p c, v = .slice p l.length c ∧ l.length ≤ maxLen ∧ (0 < l.length → p = some ⟨b, o, none⟩) ∧ ∀ k, k < l.length → w.cell? ⟨b, o + k, none⟩ = some (.int .u32 (l.getD k 0)) := by
  obtain ⟨h1, p, c, rfl, h2⟩ := h
  by_cases h0 : 0 < l.length
  · obtain ⟨b, o, rfl, h3⟩ := h2 h0
    exact ⟨b, o, _, c, rfl, h1, fun _ => rfl, h3⟩
  · exact ⟨0, 0, p, c, rfl, h1, fun h => absurd h h0, fun k hk => by omega⟩
theorem Reads32.keepb {a b : World} {v : Value} {l : List Int} (h : Reads32 a v l) (hb : Below a.heap.size a b) : Reads32 b v l := by
  obtain ⟨h1, p, c, rfl, h2⟩ := h
  refine ⟨h1, p, c, rfl, fun h0 => ?_⟩
  obtain ⟨g, o, rfl, h3⟩ := h2 h0
  exact ⟨g, o, rfl, fun k hk => (hb.cell (World.block_lt_of_cell? _ _ (h3 k hk))).trans (h3 k hk)⟩
theorem Reads32.shape' {w : World} {v : Value} {l : List Int} (h : Reads32 w v l) : ∃ p n c, v = .slice p n c := by obtain ⟨_, p, c, h, _⟩ := h; exact ⟨_, _, _, h⟩
theorem Reads32.keepO {S : Nat → Prop} {a b : World} {v : Value} {l : List Int} (h : Reads32 a v l) (o : Only S a b) (hS : ∀ k, v.ownBlock = some k → ¬ S k) : Reads32 b v l := by
  obtain ⟨h1, p, c, rfl, h2⟩ := h
  refine ⟨h1, p, c, rfl, fun h0 => ?_⟩
  obtain ⟨g, q, rfl, h3⟩ := h2 h0
  exact ⟨g, q, rfl, fun k hk => (o.cell (p := ⟨g, q + k, none⟩) (World.block_lt_of_cell? _ _ (h3 k hk)) (hS g rfl)).trans (h3 k hk)⟩
theorem Reads32.of_own {w : World} {base : Nat} {v : Value} {l : List Int} (h : w.ownsRow base 22 1 v l.length (u32s l)) : Reads32 w v l := by
  rcases h.2 with ⟨h1, h2⟩ | ⟨g, cap, cur, h1, h2, h3, h4, h5, h6, h7⟩
  · obtain rfl := List.length_eq_zero_iff.1 h2
    exact ⟨by unfold maxLen; simp, none, 0, h1, fun h => by simp at h⟩
  · refine ⟨by omega, _, cap, h1, fun _ => ⟨g, 0, rfl, fun k hk => ?_⟩⟩
    rw [Nat.zero_add, cell_of_obj h3]
    have e : cur[k]? = (cur.toList.take (l.length * 1))[k]? := by
      rw [List.getElem?_take_of_lt (by omega)]; simp
    rw [e, h7]
    simp [u32s, hk]
theorem U32s.reads {S : Nat → Prop} {w : World} {v : Value} {l : List Int} (h : U32s S w v l) (hl : l.length ≤ maxLen) : Reads32 w v l := by
  obtain ⟨_, p, c, rfl, h2⟩ := h
  exact ⟨hl, p, c, rfl, fun h0 => by obtain ⟨b, o, rfl, _, _, h3⟩ := h2 h0; exact ⟨b, o, rfl, h3⟩⟩
theorem Reads32.u32s {S : Nat → Prop} {w : World} {base : Nat} {v : Value} {l : List Int} (h : w.ownsRow base 22 1 v l.length (u32s l)) (hw : Words l) (hS : ∀ k, base ≤ k → ¬ S k) : U32s S w v l := by
  obtain ⟨hl, p, c, rfl, h2⟩ := Reads32.of_own h
  refine ⟨hw, p, c, rfl, fun h0 => ?_⟩
  obtain ⟨b, o, rfl, h3⟩ := h2 h0
  rcases h.2 with ⟨h1, _⟩ | ⟨g, cap, cur, h1, hb, _⟩
  · cases h1
  · cases h1
    exact ⟨b, 0, rfl, hS _ hb, World.block_lt_of_cell? _ _ (h3 0 h0), h3⟩
set_option maxHeartbeats 1000000 in
theorem same_any (w : World) (u v : Value) (a b : List Int) (hu : Reads32 w u a) (hv : Reads32 w v b) :
    Calls Tryz.prog 18 #[u, v] w fun e w' => e = .returned (.bool (decide (a = b))) ∧ Below w.heap.size w w' := by
  obtain ⟨ba, oa, pa, ca, rfl, la, qa, ha⟩ := hu.shape
  obtain ⟨bb, ob, pb, cb, rfl, lb, qb, hb⟩ := hv.shape
  unfold maxLen at la lb
  have QA := mhid (And.intro qa ha)
  have QB := mhid (And.intro qb hb)
  clear qa ha qb hb hu hv
  by_cases hl : a.length = b.length
  · have hneq : ((a.length : Int) != (b.length : Int)) = false := by simp [hl]
    have HL := mhid hl
    clear hl
    go_enter Tryz.func18, Tryz.ntmps18
    go_wp2_with fail
    go_loopw [5] (fun i wr => ∃ k : Nat, k ≤ a.length ∧ i = .int .i64 k ∧ a.take k = b.take k ∧ (∃ n, wr = w.drewN n)) (fun i _ => a.length - (intOf i).toNat)
    case atStart => exact ⟨0, Nat.zero_le _, rfl, rfl, 0, rfl⟩
    case round =>
      obtain ⟨k, hk, rfl, htk, n, rfl⟩ := hrel
      have HT := mhid htk
      clear htk
      by_cases hlt : k < a.length
      · have hlb : k < b.length := by rw [← HL.out]; exact hlt
        obtain rfl := QA.out.1 (by omega)
        obtain rfl := QB.out.1 (by omega)
        have c1 := QA.out.2 k hlt
        have c2 := QB.out.2 k hlb
        have hx : a.getD k 0 = a[k] := by simp [List.getD_eq_getElem?_getD, hlt]
        have hy : b.getD k 0 = b[k] := by simp [List.getD_eq_getElem?_getD, hlb]
        have t1 := List.take_succ_eq_append_getElem hlt
        have t2 := List.take_succ_eq_append_getElem hlb
        have h1 : (k : Int) < a.length := by omega
        have h2 : (k : Int) < b.length := by omega
        by_cases hxy : a.getD k 0 = b.getD k 0
        · have hab : a.take (k + 1) = b.take (k + 1) := by rw [t1, t2, HT.out, ← hx, ← hy, hxy]
          have HA := mhid hab
          rw [hxy] at c1
          clear hab t1 t2 hx hy hxy
          generalize b.getD k 0 = y at c1 c2
          go_wp2_with fail
          go_quiet (fail)
          go_wp2_with fail
          exact ⟨⟨k + 1, by omega, by go_num, HA.out, _, rfl⟩, by simp [intOf] <;> omega⟩
        · have hab : a ≠ b := fun e => hxy (by rw [e])
          have HA := mhid hab
          clear hab t1 t2 hx hy
          generalize b.getD k 0 = y at c2 hxy
          generalize a.getD k 0 = x at c1 hxy
          have hne : (x != y) = true := by simpa using hxy
          go_wp2_with fail
          go_quiet (fail)
          go_wp2_with fail
          go_ret
          exact ⟨mret_val (by rw [decide_eq_false HA.out]; rfl), below_drewN (below_drewN (Below.refl _ _) n) _⟩
      · obtain rfl : k = a.length := by omega
        have hab : a = b := by
          have h1 := HT.out
          rw [List.take_length, HL.out, List.take_length] at h1; exact h1
        have HA := mhid hab
        clear hab
        go_wp2_with fail
        go_ret
        exact ⟨mret_val (by rw [decide_eq_true HA.out]; rfl), below_drewN (Below.refl _ _) n⟩
  · have hneq : ((a.length : Int) != (b.length : Int)) = true := by simp; omega
    have hab : a ≠ b := fun e => hl (by rw [e])
    have HA := mhid hab
    clear hab hl
    go_enter Tryz.func18, Tryz.ntmps18
    go_wp2_with fail
    go_ret
    exact ⟨mret_val (by rw [decide_eq_false HA.out]; rfl), Below.refl _ _⟩
end Go.Proofs.YtgdebchbdmogcaaGreatDoor
/- The walks of the package mem. -/
namespace Go.Proofs.YtgdebchbdmogcaaGreatDoor
open Go.RowKit
set_option linter.unusedVariables false
/-- The two cells of a memory's struct. -/
theorem MemAt.cells {w : World} {m g : Nat} {d : List Int} (h : MemAt w m g d) : ∃ cap, w.cell? ⟨m, 0, none⟩ = some (.slice (some ⟨g, 0, none⟩) d.length cap) ∧ w.cell? ⟨m, 1, none⟩ = some (.bool true) ∧ d.length ≤ cap ∧ cap ≤ maxLen := by
  obtain ⟨⟨cap, h1, h2⟩, _⟩ := h
  exact ⟨cap, by rw [cell_of_obj h1]; rfl, by rw [cell_of_obj h1]; rfl, h2⟩
theorem none_nil (w : World) : Calls Tryz.prog 47 #[.pointer none] w fun e w' => e = .returned (.bool true) ∧ w = w' := by
  go_enter Tryz.func47, Tryz.ntmps47
  go_wp2
  go_ret
  exact ⟨rfl, rfl⟩
theorem none_unmade (w : World) (m : Nat) (h : w.cell? ⟨m, 1, none⟩ = some (.bool false)) : Calls Tryz.prog 47 #[.pointer (some ⟨m, 0, none⟩)] w fun e w' => e = .returned (.bool true) ∧ w = w' := by
  go_enter Tryz.func47, Tryz.ntmps47
  go_wp2
  go_ret
  exact ⟨rfl, rfl⟩
theorem none_made (w : World) (m : Nat) (h : w.cell? ⟨m, 1, none⟩ = some (.bool true)) : Calls Tryz.prog 47 #[.pointer (some ⟨m, 0, none⟩)] w fun e w' => e = .returned (.bool false) ∧ w = w' := by
  go_enter Tryz.func47, Tryz.ntmps47
  go_wp2
  go_ret
  exact ⟨rfl, rfl⟩
/-- The slice that span hands out: n bytes from a on. -/
def SpanV (g a n : Nat) (v : Value) : Prop := ∃ b, v = .slice (some ⟨g, b, none⟩) n n ∧ (n = 0 ∨ b = a)
def SpanOk (g a n : Nat) (w : World) (e : Ending) (w' : World) : Prop := (∃ v, e = .returned (.tuple #[v, .int .i64 0]) ∧ SpanV g a n v) ∧ w = w'
theorem spanV_of {g a b n n' : Nat} (h1 : n' = n) (h2 : n = 0 ∨ b = a) : SpanV g a n (.slice (some ⟨g, b, none⟩) n' n') := by subst h1; exact ⟨b, rfl, h2⟩

set_option maxHeartbeats 400000 in
theorem span_ok1 (w : World) (m g : Nat) (d : List Int) (h : MemAt w m g d) (a : Int) (many : Int) (ha : 0 ≤ a) (ha2 : a < 4294967296) (hm : 0 ≤ many) (hr : a + 1 * many ≤ d.length) :
    Calls Tryz.prog 45 #[.pointer (some ⟨m, 0, none⟩), .int .u32 a, .int .i64 many, .int .i64 1] w (SpanOk g a.toNat (many).toNat w) := by
  obtain ⟨cap, c0, c1, hcap, hcap2⟩ := h.cells
  have hlen := h.len
  unfold maxLen at hcap2
  clear h
  have hn := none_made w m c1
  go_enter Tryz.func45, Tryz.ntmps45
  go_wp2_with fail
  refine hn.mono ?_
  rintro e w' ⟨rfl, rfl⟩
  go_wp2_with fail
  all_goals
    go_ret2
    refine ⟨⟨_, rfl, ?_⟩, rfl⟩
    exact spanV_of (by omega) (by omega)

set_option maxHeartbeats 400000 in
theorem span_ok4 (w : World) (m g : Nat) (d : List Int) (h : MemAt w m g d) (a : Int) (many : Int) (ha : 0 ≤ a) (ha2 : a < 4294967296) (hm : 0 ≤ many) (hr : a + 4 * many ≤ d.length) (hal : a % 4 = 0) :
    Calls Tryz.prog 45 #[.pointer (some ⟨m, 0, none⟩), .int .u32 a, .int .i64 many, .int .i64 4] w (SpanOk g a.toNat (4 * many).toNat w) := by
  obtain ⟨cap, c0, c1, hcap, hcap2⟩ := h.cells
  have hlen := h.len
  unfold maxLen at hcap2
  clear h
  have hn := none_made w m c1
  go_enter Tryz.func45, Tryz.ntmps45
  go_wp2_with fail
  refine hn.mono ?_
  rintro e w' ⟨rfl, rfl⟩
  go_wp2_with fail
  all_goals
    go_ret2
    refine ⟨⟨_, rfl, ?_⟩, rfl⟩
    exact spanV_of (by omega) (by omega)

set_option maxHeartbeats 400000 in
theorem span_neg (w : World) (m g : Nat) (d : List Int) (h : MemAt w m g d) (a : Int) (many : Int) (ha : 0 ≤ a) (ha2 : a < 4294967296) (bytes : Int) (hm : many < 0) :
    Calls Tryz.prog 45 #[.pointer (some ⟨m, 0, none⟩), .int .u32 a, .int .i64 many, .int .i64 bytes] w (fun e w' => e = .returned (.tuple #[.slice none 0 0, .int .i64 2]) ∧ w = w') := by
  obtain ⟨cap, c0, c1, hcap, hcap2⟩ := h.cells
  have hlen := h.len
  unfold maxLen at hcap2
  clear h
  have hn := none_made w m c1
  go_enter Tryz.func45, Tryz.ntmps45
  go_wp2_with fail
  refine hn.mono ?_
  rintro e w' ⟨rfl, rfl⟩
  go_wp2_with fail
  go_ret2
  exact ⟨rfl, rfl⟩

set_option maxHeartbeats 400000 in
theorem span_bad (w : World) (m g : Nat) (d : List Int) (h : MemAt w m g d) (a : Int) (many : Int) (ha : 0 ≤ a) (ha2 : a < 4294967296) (bytes : Int) (hm : 0 ≤ many) (hb : bytes ≠ 1 ∧ bytes ≠ 4) :
    Calls Tryz.prog 45 #[.pointer (some ⟨m, 0, none⟩), .int .u32 a, .int .i64 many, .int .i64 bytes] w (fun e w' => e = .returned (.tuple #[.slice none 0 0, .int .i64 2]) ∧ w = w') := by
  have h1 : (bytes == 1) = false := by simpa using hb.1
  have h2 : (bytes == 4) = false := by simpa using hb.2
  have h3 : (bytes != 1) = true := by simpa using hb.1
  have h4 : (bytes != 4) = true := by simpa using hb.2
  obtain ⟨cap, c0, c1, hcap, hcap2⟩ := h.cells
  have hlen := h.len
  unfold maxLen at hcap2
  clear h
  have hn := none_made w m c1
  go_enter Tryz.func45, Tryz.ntmps45
  go_wp2_with fail
  refine hn.mono ?_
  rintro e w' ⟨rfl, rfl⟩
  go_wp2_with fail
  go_ret2
  exact ⟨rfl, rfl⟩

set_option maxHeartbeats 400000 in
theorem span_align (w : World) (m g : Nat) (d : List Int) (h : MemAt w m g d) (a : Int) (many : Int) (ha : 0 ≤ a) (ha2 : a < 4294967296) (hm : 0 ≤ many) (hal : ¬ a % 4 = 0) :
    Calls Tryz.prog 45 #[.pointer (some ⟨m, 0, none⟩), .int .u32 a, .int .i64 many, .int .i64 4] w (fun e w' => e = .returned (.tuple #[.slice none 0 0, .int .i64 51]) ∧ w = w') := by
  obtain ⟨cap, c0, c1, hcap, hcap2⟩ := h.cells
  have hlen := h.len
  unfold maxLen at hcap2
  clear h
  have hn := none_made w m c1
  go_enter Tryz.func45, Tryz.ntmps45
  go_wp2_with fail
  refine hn.mono ?_
  rintro e w' ⟨rfl, rfl⟩
  go_wp2_with fail
  go_ret2
  exact ⟨rfl, rfl⟩

set_option maxHeartbeats 400000 in
theorem span_range1 (w : World) (m g : Nat) (d : List Int) (h : MemAt w m g d) (a : Int) (many : Int) (ha : 0 ≤ a) (ha2 : a < 4294967296) (hm : 0 ≤ many) (hm3 : many ≤ 9223372036854775807) (hr : (d.length : Int) < a + 1 * many) :
    Calls Tryz.prog 45 #[.pointer (some ⟨m, 0, none⟩), .int .u32 a, .int .i64 many, .int .i64 1] w (fun e w' => e = .returned (.tuple #[.slice none 0 0, .int .i64 50]) ∧ w = w') := by
  obtain ⟨cap, c0, c1, hcap, hcap2⟩ := h.cells
  have hlen := h.len
  unfold maxLen at hcap2
  clear h
  have hn := none_made w m c1
  by_cases hx : (d.length : Int) < a
  · have hx1 : decide ((d.length : Int) < a) = true := by simpa using hx
    go_enter Tryz.func45, Tryz.ntmps45
    go_wp2_with fail
    refine hn.mono ?_
    rintro e w' ⟨rfl, rfl⟩
    go_wp2_with fail
    go_ret2
    exact ⟨rfl, rfl⟩
  · have hx1 : decide ((d.length : Int) < a) = false := by simpa using hx
    have hx2 : ((d.length : Int) - a) / 1 < many := by omega
    go_enter Tryz.func45, Tryz.ntmps45
    go_wp2_with fail
    refine hn.mono ?_
    rintro e w' ⟨rfl, rfl⟩
    go_wp2_with fail
    go_ret2
    exact ⟨rfl, rfl⟩

set_option maxHeartbeats 400000 in
theorem span_range4 (w : World) (m g : Nat) (d : List Int) (h : MemAt w m g d) (a : Int) (many : Int) (ha : 0 ≤ a) (ha2 : a < 4294967296) (hm : 0 ≤ many) (hal : a % 4 = 0) (hm3 : many ≤ 9223372036854775807) (hr : (d.length : Int) < a + 4 * many) :
    Calls Tryz.prog 45 #[.pointer (some ⟨m, 0, none⟩), .int .u32 a, .int .i64 many, .int .i64 4] w (fun e w' => e = .returned (.tuple #[.slice none 0 0, .int .i64 50]) ∧ w = w') := by
  obtain ⟨cap, c0, c1, hcap, hcap2⟩ := h.cells
  have hlen := h.len
  unfold maxLen at hcap2
  clear h
  have hn := none_made w m c1
  by_cases hx : (d.length : Int) < a
  · have hx1 : decide ((d.length : Int) < a) = true := by simpa using hx
    go_enter Tryz.func45, Tryz.ntmps45
    go_wp2_with fail
    refine hn.mono ?_
    rintro e w' ⟨rfl, rfl⟩
    go_wp2_with fail
    go_ret2
    exact ⟨rfl, rfl⟩
  · have hx1 : decide ((d.length : Int) < a) = false := by simpa using hx
    have hx2 : ((d.length : Int) - a) / 4 < many := by omega
    go_enter Tryz.func45, Tryz.ntmps45
    go_wp2_with fail
    refine hn.mono ?_
    rintro e w' ⟨rfl, rfl⟩
    go_wp2_with fail
    go_ret2
    exact ⟨rfl, rfl⟩

set_option maxHeartbeats 400000 in
theorem span_nil (w : World) (a many bytes : Int) :
    Calls Tryz.prog 45 #[.pointer none, .int .u32 a, .int .i64 many, .int .i64 bytes] w (fun e w' => e = .returned (.tuple #[.slice none 0 0, .int .i64 1]) ∧ w = w') := by
  have hn := none_nil w
  go_enter Tryz.func45, Tryz.ntmps45
  go_wp2_with fail
  refine hn.mono ?_
  rintro e w' ⟨rfl, rfl⟩
  go_wp2_with fail
  go_ret2
  exact ⟨rfl, rfl⟩

set_option maxHeartbeats 400000 in
theorem span_unmade (w : World) (m : Nat) (h : w.cell? ⟨m, 1, none⟩ = some (.bool false)) (a many bytes : Int) :
    Calls Tryz.prog 45 #[.pointer (some ⟨m, 0, none⟩), .int .u32 a, .int .i64 many, .int .i64 bytes] w (fun e w' => e = .returned (.tuple #[.slice none 0 0, .int .i64 1]) ∧ w = w') := by
  have hn := none_unmade w m h
  go_enter Tryz.func45, Tryz.ntmps45
  go_wp2_with fail
  refine hn.mono ?_
  rintro e w' ⟨rfl, rfl⟩
  go_wp2_with fail
  go_ret2
  exact ⟨rfl, rfl⟩
end Go.Proofs.YtgdebchbdmogcaaGreatDoor
/- The walks of mem.word and mem.lay, and of loads and stores. -/
namespace Go.Proofs.YtgdebchbdmogcaaGreatDoor
open Go.RowKit
set_option linter.unusedVariables false
/-- The word of the first k bytes from a on. -/
def beS (d : List Int) (a : Nat) : Nat → Int
  | 0 => 0
  | k + 1 => beS d a k * 256 + d.getD (a + k) 0
theorem beS_bd {d : List Int} (h : Bytes d) (a : Nat) : ∀ k, k ≤ 4 → 0 ≤ beS d a k ∧ beS d a k < 4294967296 ∧ (k ≤ 3 → beS d a k < 16777216) := by
  intro k hk
  have h0 := h.at a; have h1 := h.at (a + 1); have h2 := h.at (a + 2); have h3 := h.at (a + 3)
  have hc : k = 0 ∨ k = 1 ∨ k = 2 ∨ k = 3 ∨ k = 4 := by omega
  rcases hc with rfl | rfl | rfl | rfl | rfl <;> simp only [beS, Nat.add_zero] <;> omega
theorem beS_one (d : List Int) (a : Nat) : beS d a 1 = loadS d a 1 := by simp [beS, loadS]
theorem beS_four (d : List Int) (a : Nat) : beS d a 4 = loadS d a 4 := by simp [beS, loadS]
theorem or_byte (X x : Int) (h : 0 ≤ X) (h2 : X < 16777216) (k : 0 ≤ x) (k2 : x < 256) : bits .or .u32 (X * 256) x = X * 256 + x := by
  rw [u32_or _ _ (by omega) (by omega) k (by omega)]
  obtain ⟨A, rfl⟩ := Int.eq_ofNat_of_zero_le h
  obtain ⟨B, rfl⟩ := Int.eq_ofNat_of_zero_le k
  have e : ((A : Int) * 256).toNat = A * 256 := by omega
  rw [e, Int.toNat_natCast, nat_join 8 (A * 256) B (by omega) (by omega)]; omega
theorem word_none (p : Option Addr) (c : Nat) (w : World) : Calls Tryz.prog 46 #[.slice p 0 c] w fun e w' => e = .returned (.int .u32 0) ∧ w = w' := by
  go_enter Tryz.func46, Tryz.ntmps46
  go_wp2
  go_rounds 1
  go_ret
  exact ⟨rfl, rfl⟩
set_option maxHeartbeats 400000 in
theorem mword_any (w : World) (m g : Nat) (d : List Int) (h : MemAt w m g d) (a n c : Nat) (hn : n ≤ 4) (hr : a + n ≤ d.length) :
    Calls Tryz.prog 46 #[.slice (some ⟨g, a, none⟩) n c] w fun e w' => e = .returned (.int .u32 (beS d a n)) ∧ w = w' := by
  go_enter Tryz.func46, Tryz.ntmps46
  go_wp2
  go_loop [3, 4, 7] (fun x _ i => ∃ k : Nat, k ≤ n ∧ i = .int .i64 k ∧ x = .int .u32 (beS d a k)) (fun _ _ i => n - (intOf i).toNat)
  case atStart => exact ⟨0, Nat.zero_le _, rfl, rfl⟩
  case round =>
    obtain ⟨k, hk, rfl, rfl⟩ := hrel
    by_cases hlt : k < n
    · have hcell := h.byte (i := a + k) (by omega)
      have hb := beS_bd h.bytes a k (by omega)
      have hb3 := hb.2.2 (by omega)
      have hx := h.bytes.at (a + k)
      have ho := or_byte (beS d a k) _ hb.1 hb3 hx.1 hx.2
      rw [List.getD_eq_getElem?_getD] at hcell hx ho
      clear h
      go_wp2
      refine ⟨⟨k + 1, by omega, by go_num, ?_⟩, by simp [intOf] <;> omega⟩
      simp [beS]
    · obtain rfl : k = n := by omega
      clear h
      go_wp2
      go_ret
      exact ⟨rfl, rfl⟩
theorem lay_none (p : Option Addr) (c : Nat) (x : Int) (w : World) : Calls Tryz.prog 89 #[.slice p 0 c, .int .u32 x] w fun e w' => e = .returned (.tuple #[]) ∧ w = w' := by
  go_enter Tryz.func89, Tryz.ntmps89
  go_wp2
  go_rounds 1
  go_end0
  exact ⟨rfl, rfl⟩
set_option maxHeartbeats 400000 in
theorem lay_one (w : World) (m g : Nat) (d : List Int) (h : MemAt w m g d) (a c : Nat) (x : Int) (hx : 0 ≤ x) (hx2 : x < 4294967296) (hr : a + 1 ≤ d.length) :
    Calls Tryz.prog 89 #[.slice (some ⟨g, a, none⟩) 1 c, .int .u32 x] w fun e w' => e = .returned (.tuple #[]) ∧ w.setCell ⟨g, a, none⟩ (.int .u8 (x % 256)) = w' := by
  have hc := h.byte (i := a) (by omega)
  have hf := h.free a
  clear h
  go_enter Tryz.func89, Tryz.ntmps89
  go_wp2
  go_rounds 2
  go_end0
  exact ⟨rfl, rfl⟩

def laid4 (w : World) (g a : Nat) (x : Int) : World :=
  (((w.setCell ⟨g, a + 3, none⟩ (.int .u8 (x % 256))).setCell ⟨g, a + 2, none⟩ (.int .u8 (x / 256 % 256))).setCell ⟨g, a + 1, none⟩ (.int .u8 (x / 65536 % 256))).setCell ⟨g, a, none⟩ (.int .u8 (x / 16777216 % 256))
set_option maxHeartbeats 400000 in
theorem lay_four (w : World) (m g : Nat) (d : List Int) (h : MemAt w m g d) (a c : Nat) (x : Int) (hx : 0 ≤ x) (hx2 : x < 4294967296) (hr : a + 4 ≤ d.length) :
    Calls Tryz.prog 89 #[.slice (some ⟨g, a, none⟩) 4 c, .int .u32 x] w fun e w' => e = .returned (.tuple #[]) ∧ laid4 w g a x = w' := by
  have hc := h.byte (i := a) (by omega)
  have hc1 := h.byte (i := a + 1) (by omega)
  have hc2 := h.byte (i := a + 2) (by omega)
  have hc3 := h.byte (i := a + 3) (by omega)
  have hf := h.free a
  have hf1 := h.free (a + 1)
  have hf2 := h.free (a + 2)
  have hf3 := h.free (a + 3)
  clear h
  go_enter Tryz.func89, Tryz.ntmps89
  go_wp2
  go_rounds 5
  go_end0
  exact ⟨rfl, by unfold laid4; rw [show x / 16777216 % 256 = x / 16777216 by omega]⟩
theorem MemAt.laid4 {w : World} {m g : Nat} {d : List Int} (h : MemAt w m g d) {a : Nat} {x : Int} (hr : a + 4 ≤ d.length) : MemAt (laid4 w g a x) m g (storeS d a 4 x) := by
  have h1 := h.set (i := a + 3) (x := x % 256) (by omega) (by omega)
  have h2 := h1.set (i := a + 2) (x := x / 256 % 256) (by simp; omega) (by omega)
  have h3 := h2.set (i := a + 1) (x := x / 65536 % 256) (by simp; omega) (by omega)
  have h4 := h3.set (i := a) (x := x / 16777216 % 256) (by simp; omega) (by omega)
  exact h4
theorem laid4_only (w : World) (g a : Nat) (x : Int) : Only (· = g) w (laid4 w g a x) :=
  (((((Only.refl (· = g) w).setCell (p := ⟨g, a + 3, none⟩) rfl _).setCell (p := ⟨g, a + 2, none⟩) rfl _).setCell (p := ⟨g, a + 1, none⟩) rfl _).setCell (p := ⟨g, a, none⟩) rfl _)
/-- What a load answers: the word, the error. -/
def loadV (d : List Int) (a many : Int) : Int := if spanE d.length a 1 many = 0 then loadS d a.toNat many.toNat else 0
def storeV (d : List Int) (a many x : Int) : List Int := if spanE d.length a 1 many = 0 then storeS d a.toNat many.toNat x else d
theorem spanE_ok {n : Nat} {a many bytes : Int} (h : spanE n a many bytes = 0) (ha : 0 ≤ a) : 0 ≤ many ∧ (bytes = 1 ∨ bytes = 4) ∧ a % bytes = 0 ∧ a + bytes * many ≤ n := by
  unfold spanE at h
  by_cases h1 : many < 0 ∨ (bytes ≠ 1 ∧ bytes ≠ 4)
  · rw [if_pos h1] at h; omega
  · rw [if_neg h1] at h
    by_cases h2 : a % bytes ≠ 0
    · rw [if_pos h2] at h; omega
    · rw [if_neg h2] at h
      by_cases h3 : (n : Int) < a ∨ (((n : Int) - a) / bytes < many)
      · rw [if_pos h3] at h; omega
      · have hb : bytes = 1 ∨ bytes = 4 := by omega
        refine ⟨by omega, hb, by omega, ?_⟩
        rcases hb with rfl | rfl <;> omega
/-- What span answers, whatever it is asked. -/
def SpanAny (g n : Nat) (a many bytes : Int) (w : World) (e : Ending) (w' : World) : Prop :=
  (spanE n a many bytes = 0 ∧ SpanOk g a.toNat (bytes * many).toNat w e w') ∨ (spanE n a many bytes ≠ 0 ∧ e = .returned (.tuple #[.slice none 0 0, .int .i64 (spanE n a many bytes)]) ∧ w = w')
theorem span_any (w : World) (m g : Nat) (d : List Int) (h : MemAt w m g d) (a : Int) (many bytes : Int) (ha : 0 ≤ a) (ha2 : a < 4294967296) (hm3 : many ≤ 9223372036854775807) :
    Calls Tryz.prog 45 #[.pointer (some ⟨m, 0, none⟩), .int .u32 a, .int .i64 many, .int .i64 bytes] w (SpanAny g d.length a many bytes w) := by
  by_cases h1 : many < 0
  · refine (span_neg w m g d h a many ha ha2 bytes h1).mono ?_
    rintro e w' ⟨he, hw⟩
    exact .inr (by rw [show spanE d.length a many bytes = 2 from if_pos (.inl h1)]; exact ⟨by omega, he, hw⟩)
  · by_cases h2 : bytes ≠ 1 ∧ bytes ≠ 4
    · refine (span_bad w m g d h a many ha ha2 bytes (by omega) h2).mono ?_
      rintro e w' ⟨he, hw⟩
      exact .inr (by rw [show spanE d.length a many bytes = 2 from if_pos (.inr h2)]; exact ⟨by omega, he, hw⟩)
    · have hb : bytes = 1 ∨ bytes = 4 := by omega
      have e0 : spanE d.length a many bytes = if a % bytes ≠ 0 then 51 else if (d.length : Int) < a ∨ (((d.length : Int) - a) / bytes < many) then 50 else 0 := if_neg (by omega)
      by_cases h3 : a % bytes ≠ 0
      · obtain rfl : bytes = 4 := by rcases hb with rfl | rfl <;> omega
        refine (span_align w m g d h a many ha ha2 (by omega) h3).mono ?_
        rintro e w' ⟨he, hw⟩
        exact .inr (by rw [e0, if_pos h3]; exact ⟨by omega, he, hw⟩)
      · rw [if_neg h3] at e0
        by_cases h4 : (d.length : Int) < a ∨ (((d.length : Int) - a) / bytes < many)
        · rw [if_pos h4] at e0
          rcases hb with rfl | rfl
          · refine (span_range1 w m g d h a many ha ha2 (by omega) hm3 (by omega)).mono ?_
            rintro e w' ⟨he, hw⟩
            exact .inr (by rw [e0]; exact ⟨by omega, he, hw⟩)
          · refine (span_range4 w m g d h a many ha ha2 (by omega) (by omega) hm3 (by omega)).mono ?_
            rintro e w' ⟨he, hw⟩
            exact .inr (by rw [e0]; exact ⟨by omega, he, hw⟩)
        · rw [if_neg h4] at e0
          rcases hb with rfl | rfl
          · refine (span_ok1 w m g d h a many ha ha2 (by omega) (by omega)).mono ?_
            rintro e w' hs
            rw [show many.toNat = (1 * many).toNat by omega] at hs
            exact .inl ⟨e0, hs⟩
          · refine (span_ok4 w m g d h a many ha ha2 (by omega) (by omega) (by omega)).mono ?_
            rintro e w' hs
            exact .inl ⟨e0, hs⟩
set_option maxHeartbeats 400000 in
theorem load_any (w : World) (m g : Nat) (d : List Int) (h : MemAt w m g d) (a : Int) (many : Int) (ha : 0 ≤ a) (ha2 : a < 4294967296) :
    Calls Tryz.prog 61 #[.pointer (some ⟨m, 0, none⟩), .int .u32 a, .int .i64 many] w fun e w' => e = .returned (.tuple #[.int .u32 (loadV d a many), .int .i64 (spanE d.length a 1 many)]) ∧ w = w' := by
  have hs := span_any w m g d h a 1 many ha ha2 (by omega)
  have HS := mhid hs
  have H := mhid h
  clear hs h
  go_enter Tryz.func61, Tryz.ntmps61
  go_wp2_with fail
  refine HS.out.mono ?_
  rintro e w' (⟨he, ⟨v, rfl, b, rfl, hb⟩, rfl⟩ | ⟨he, rfl, rfl⟩)
  · obtain ⟨_, h4, _, h5⟩ := spanE_ok he ha
    have hb2 : b = a.toNat := by omega
    subst hb2
    clear hb HS
    have HE := mhid he
    clear he
    rcases h4 with rfl | rfl
    all_goals
      go_wp2_with fail
      refine (mword_any _ m g d H.out a.toNat _ _ (by omega) (by omega)).mono ?_
      rintro e w' ⟨rfl, rfl⟩
      go_wp2_with fail
      go_ret2
      refine ⟨mret_ii ?_ HE.out.symm, rfl⟩
      rw [show loadV d a _ = loadS d a.toNat _ from if_pos HE.out]
      first | exact beS_one d a.toNat | exact beS_four d a.toNat
  · have e0 : loadV d a many = 0 := if_neg he
    have E0 := mhid e0
    clear e0 HS H
    go_wp2_with fail
    refine (word_none _ _ _).mono ?_
    rintro e w' ⟨rfl, rfl⟩
    go_wp2_with fail
    go_ret2
    exact ⟨mret_ii E0.out.symm rfl, rfl⟩

/-- What a store does. -/
def Stores (m g : Nat) (d : List Int) (a many x : Int) (w : World) (e : Ending) (w' : World) : Prop :=
  e = .returned (.int .i64 (spanE d.length a 1 many)) ∧ MemAt w' m g (storeV d a many x) ∧ Only (· = g) w w' ∧ w'.heap.size = w.heap.size
set_option maxHeartbeats 400000 in
theorem store_any (w : World) (m g : Nat) (d : List Int) (h : MemAt w m g d) (a : Int) (many : Int) (ha : 0 ≤ a) (ha2 : a < 4294967296) (x : Int) (hx : 0 ≤ x) (hx2 : x < 4294967296) :
    Calls Tryz.prog 48 #[.pointer (some ⟨m, 0, none⟩), .int .u32 a, .int .i64 many, .int .u32 x] w (Stores m g d a many x w) := by
  have hs := span_any w m g d h a 1 many ha ha2 (by omega)
  have HS := mhid hs
  have H := mhid h
  clear hs h
  go_enter Tryz.func48, Tryz.ntmps48
  go_wp2_with fail
  refine HS.out.mono ?_
  rintro e w' (⟨he, ⟨v, rfl, b, rfl, hb⟩, rfl⟩ | ⟨he, rfl, rfl⟩)
  · obtain ⟨_, h4, _, h5⟩ := spanE_ok he ha
    have hb2 : b = a.toNat := by omega
    subst hb2
    clear hb HS
    have HE := mhid he
    clear he
    rcases h4 with rfl | rfl
    · go_wp2_with fail
      refine (lay_one _ m g d H.out a.toNat _ x hx hx2 (by omega)).mono ?_
      rintro e w' ⟨rfl, rfl⟩
      go_wp2_with fail
      go_ret
      refine ⟨mret_i HE.out.symm, ?_, (Only.refl (· = g) w).setCell (p := ⟨g, a.toNat, none⟩) rfl _, by simp⟩
      rw [show storeV d a 1 x = storeS d a.toNat (1 : Int).toNat x from if_pos HE.out]
      exact H.out.set (by omega) (by omega)
    · go_wp2_with fail
      refine (lay_four _ m g d H.out a.toNat _ x hx hx2 (by omega)).mono ?_
      rintro e w' ⟨rfl, rfl⟩
      go_wp2_with fail
      go_ret
      refine ⟨mret_i HE.out.symm, ?_, laid4_only _ _ _ _, by simp [laid4]⟩
      rw [show storeV d a 4 x = storeS d a.toNat (4 : Int).toNat x from if_pos HE.out]
      exact H.out.laid4 (by omega)
  · have e0 : storeV d a many x = d := if_neg he
    have E0 := mhid e0
    clear e0 HS
    go_wp2_with fail
    refine (lay_none _ _ _ _).mono ?_
    rintro e w' ⟨rfl, rfl⟩
    go_wp2_with fail
    go_ret
    exact ⟨mret_i rfl, by rw [E0.out]; exact H.out, Only.refl _ _, rfl⟩
/-! A memory that is none. -/

set_option maxHeartbeats 400000 in
theorem load_nil (w : World) (a many : Int) : Calls Tryz.prog 61 #[.pointer none, .int .u32 a, .int .i64 many] w fun e w' => e = .returned (.tuple #[.int .u32 0, .int .i64 1]) ∧ w = w' := by
  have hs := span_nil w a 1 many
  go_enter Tryz.func61, Tryz.ntmps61
  go_wp2_with fail
  refine hs.mono ?_
  rintro e w' ⟨rfl, rfl⟩
  go_wp2_with fail
  refine (word_none _ _ _).mono ?_
  rintro e w' ⟨rfl, rfl⟩
  go_wp2_with fail
  go_ret2
  exact ⟨rfl, rfl⟩
set_option maxHeartbeats 400000 in
theorem store_nil (w : World) (a many x : Int) : Calls Tryz.prog 48 #[.pointer none, .int .u32 a, .int .i64 many, .int .u32 x] w fun e w' => e = .returned (.int .i64 1) ∧ w = w' := by
  have hs := span_nil w a 1 many
  go_enter Tryz.func48, Tryz.ntmps48
  go_wp2_with fail
  refine hs.mono ?_
  rintro e w' ⟨rfl, rfl⟩
  go_wp2_with fail
  refine (lay_none _ _ _ _).mono ?_
  rintro e w' ⟨rfl, rfl⟩
  go_wp2_with fail
  go_ret
  exact ⟨rfl, rfl⟩
theorem size_nil (w : World) : Calls Tryz.prog 16 #[.pointer none] w fun e w' => e = .returned (.int .i64 0) ∧ w = w' := by
  have hn := none_nil w
  go_enter Tryz.func16, Tryz.ntmps16
  go_wp2_with fail
  refine hn.mono ?_
  rintro e w' ⟨rfl, rfl⟩
  go_wp2_with fail
  go_ret
  exact ⟨rfl, rfl⟩
theorem copy_nil (w : World) : Calls Tryz.prog 36 #[.pointer none] w fun e w' => e = .returned (.pointer none) ∧ w = w' := by
  have hn := none_nil w
  go_enter Tryz.func36, Tryz.ntmps36
  go_wp2_with fail
  refine hn.mono ?_
  rintro e w' ⟨rfl, rfl⟩
  go_wp2_with fail
  go_ret
  exact ⟨rfl, rfl⟩

set_option maxHeartbeats 400000 in
theorem load_unmade (w : World) (m : Nat) (h : w.cell? ⟨m, 1, none⟩ = some (.bool false)) (a many : Int) : Calls Tryz.prog 61 #[.pointer (some ⟨m, 0, none⟩), .int .u32 a, .int .i64 many] w fun e w' => e = .returned (.tuple #[.int .u32 0, .int .i64 1]) ∧ w = w' := by
  have hs := span_unmade w m h a 1 many
  go_enter Tryz.func61, Tryz.ntmps61
  go_wp2_with fail
  refine hs.mono ?_
  rintro e w' ⟨rfl, rfl⟩
  go_wp2_with fail
  refine (word_none _ _ _).mono ?_
  rintro e w' ⟨rfl, rfl⟩
  go_wp2_with fail
  go_ret2
  exact ⟨rfl, rfl⟩
set_option maxHeartbeats 400000 in
theorem store_unmade (w : World) (m : Nat) (h : w.cell? ⟨m, 1, none⟩ = some (.bool false)) (a many x : Int) : Calls Tryz.prog 48 #[.pointer (some ⟨m, 0, none⟩), .int .u32 a, .int .i64 many, .int .u32 x] w fun e w' => e = .returned (.int .i64 1) ∧ w = w' := by
  have hs := span_unmade w m h a 1 many
  go_enter Tryz.func48, Tryz.ntmps48
  go_wp2_with fail
  refine hs.mono ?_
  rintro e w' ⟨rfl, rfl⟩
  go_wp2_with fail
  refine (lay_none _ _ _ _).mono ?_
  rintro e w' ⟨rfl, rfl⟩
  go_wp2_with fail
  go_ret
  exact ⟨rfl, rfl⟩
theorem size_unmade (w : World) (m : Nat) (h : w.cell? ⟨m, 1, none⟩ = some (.bool false)) : Calls Tryz.prog 16 #[.pointer (some ⟨m, 0, none⟩)] w fun e w' => e = .returned (.int .i64 0) ∧ w = w' := by
  have hn := none_unmade w m h
  go_enter Tryz.func16, Tryz.ntmps16
  go_wp2_with fail
  refine hn.mono ?_
  rintro e w' ⟨rfl, rfl⟩
  go_wp2_with fail
  go_ret
  exact ⟨rfl, rfl⟩
theorem copy_unmade (w : World) (m : Nat) (h : w.cell? ⟨m, 1, none⟩ = some (.bool false)) : Calls Tryz.prog 36 #[.pointer (some ⟨m, 0, none⟩)] w fun e w' => e = .returned (.pointer none) ∧ w = w' := by
  have hn := none_unmade w m h
  go_enter Tryz.func36, Tryz.ntmps36
  go_wp2_with fail
  refine hn.mono ?_
  rintro e w' ⟨rfl, rfl⟩
  go_wp2_with fail
  go_ret
  exact ⟨rfl, rfl⟩

theorem size_any (w : World) (m g : Nat) (d : List Int) (h : MemAt w m g d) : Calls Tryz.prog 16 #[.pointer (some ⟨m, 0, none⟩)] w fun e w' => e = .returned (.int .i64 d.length) ∧ w = w' := by
  obtain ⟨cap, c0, c1, hcap, hcap2⟩ := h.cells
  have hn := none_made w m c1
  clear h
  go_enter Tryz.func16, Tryz.ntmps16
  go_wp2_with fail
  refine hn.mono ?_
  rintro e w' ⟨rfl, rfl⟩
  go_wp2_with fail
  go_ret
  exact ⟨rfl, rfl⟩
end Go.Proofs.YtgdebchbdmogcaaGreatDoor
/- The walks of mem.New, Copy, Put and Words. -/
namespace Go.Proofs.YtgdebchbdmogcaaGreatDoor
open Go.RowKit
set_option linter.unusedVariables false
theorem info8 : (Tryz.prog.info? 5).map (fun i => (i.zero, i.size, i.bytes)) = some (some (.int .u8 0), 1, 1) := by kernel_rfl
theorem info32 : (Tryz.prog.info? 22).map (fun i => (i.zero, i.size, i.bytes)) = some (some (.int .u32 0), 1, 4) := by kernel_rfl
/-- A row of bytes of one's own, and a memory's struct over it. -/
theorem memAt_of_row {w : World} {base n : Nat} {d : List Int} {g cap : Nat} (h : w.ownsRow base 5 1 (.slice (some ⟨g, 0, none⟩) n cap) n (u8s d)) (hb : Bytes d) (hl : d.length ≤ 4194304) :
    MemAt (w.alloc (.cells #[.slice (some ⟨g, 0, none⟩) n cap, .bool true] 108)) w.heap.size g d := by
  obtain ⟨hn, h2⟩ := h
  have hn2 : d.length = n := by simpa [u8s] using hn
  rcases h2 with ⟨h2, _⟩ | ⟨g', cap', cur, hv, hg, hh, hc, hm, hs, ht⟩
  · cases h2
  · cases hv
    have hlt := lt_of_block hh
    refine ⟨⟨cap, ?_, by omega, hm⟩, ⟨cur.toList.drop (n * 1), ?_⟩, hb, by omega, hl⟩
    · rw [hn2]; show (w.heap.push _)[w.heap.size]? = _; simp
    · rw [Below.heap_alloc _ _ _ hlt, hh, ← ht, List.take_append_drop]
theorem new_err (n : Int) (w : World) (h : n < 0 ∨ 4194304 < n ∨ n % 4 ≠ 0) : Calls Tryz.prog 51 #[.int .i64 n] w fun e w' => e = .returned (.tuple #[.pointer none, .int .i64 2]) ∧ w = w' := by
  by_cases h1 : n < 0
  · go_enter Tryz.func51, Tryz.ntmps51
    go_wp2
    go_ret2
    exact ⟨rfl, rfl⟩
  · by_cases h2 : 4194304 < n
    · go_enter Tryz.func51, Tryz.ntmps51
      go_wp2
      go_ret2
      exact ⟨rfl, rfl⟩
    · have h3 : ¬ n % 4 = 0 := by omega
      go_enter Tryz.func51, Tryz.ntmps51
      go_wp2
      go_ret2
      exact ⟨rfl, rfl⟩
/-- What New makes: a memory of n bytes, all of them 0. -/
def Makes (n : Nat) (w : World) (e : Ending) (w' : World) : Prop :=
  ∃ m g, e = .returned (.tuple #[.pointer (some ⟨m, 0, none⟩), .int .i64 0]) ∧ w.heap.size ≤ m ∧ w.heap.size ≤ g ∧ MemAt w' m g (List.replicate n 0) ∧ Below w.heap.size w w'
set_option maxHeartbeats 400000 in
theorem new_ok (n : Nat) (w : World) (h : n ≤ 4194304) (h4 : n % 4 = 0) : Calls Tryz.prog 51 #[.int .i64 n] w (Makes n w) := by
  obtain ⟨i0, hi, hz0, hz1, hz2⟩ := info_parts info8
  have hq2 : i0.bytes * n ≤ 281474976710656 := by rw [hz2]; omega
  have hq3 : n ≤ maxLen := by unfold maxLen; omega
  have h5 : ¬ ((n : Int) < 0) := by omega
  have h6 : ¬ (4194304 < (n : Int)) := by omega
  have h7 : (n : Int) % 4 = 0 := by omega
  go_enter Tryz.func51, Tryz.ntmps51
  go_wp2_with (at_make; refine wpList_make_full _ rfl _ _ 29 rfl w.heap.size 5 i0 (.int .u8 0) 1 Tryz.underlying29 hi hz0 hz1 .i64 .i64 n n n rfl rfl rfl rfl hq2 hq3 (Nat.le_refl _) ?_; intro w1 hown hgrow)
  have hsz := hgrow.size
  have hr : (madeCells (Value.int .u8 0).cells (n * 1)).toList = u8s (List.replicate n 0) := by
    rw [Nat.mul_one]; unfold u8s; rw [List.map_replicate]; exact toList_madeCells_one _ n
  rw [hr] at hown
  go_wp2
  go_ret2
  exact ⟨_, _, rfl, hsz, Nat.le_refl _, memAt_of_row hown (Bytes.zeros n) (by simpa using h), ((Below.refl _ w).grown hgrow (Nat.le_refl _) (fun k e => by cases e)).alloc hsz _⟩

theorem own_some {w : World} {base size n : Nat} {e : TypeId} {v : Value} {xs : List Value} (h : w.ownsRow base e size v n xs) (hv : v ≠ .slice none 0 0) : ∃ g cap, v = .slice (some ⟨g, 0, none⟩) n cap ∧ base ≤ g := by
  rcases h.2 with ⟨h1, _⟩ | ⟨g, cap, cur, h1, h2, _⟩
  · exact absurd h1 hv
  · exact ⟨g, cap, h1, h2⟩
theorem own_tail {w : World} {base size n k : Nat} {e : TypeId} {v : Value} {xs : List Value} (h : w.ownsRow base e size v (0 + n) ([] ++ xs)) : w.ownsRow base e size v n xs := by simpa using h
theorem u8s_news {w : World} {m g : Nat} {d : List Int} (h : MemAt w m g d) : ∀ j u, (u8s d)[j]? = some u → w.cell? ((⟨g, 0, none⟩ : Addr).add j) = some u := by
  intro j u hj
  have hlt : j < d.length := by
    have := (List.getElem?_eq_some_iff.1 hj).1; simpa [u8s] using this
  have hb := h.byte hlt
  rw [show (⟨g, 0, none⟩ : Addr).add j = ⟨g, j, none⟩ from by unfold Addr.add; split <;> simp [*]]
  rw [hb, ← hj]
  simp [u8s, hlt]
theorem u8s_one {d : List Int} : ∀ u ∈ u8s d, u.oneCell' = true := by
  intro u hu; unfold u8s at hu; obtain ⟨x, _, rfl⟩ := List.mem_map.1 hu; rfl
theorem u32s_one {d : List Int} : ∀ u ∈ u32s d, u.oneCell' = true := by
  intro u hu; unfold u32s at hu; obtain ⟨x, _, rfl⟩ := List.mem_map.1 hu; rfl
/-- What Copy makes: a memory of its own with the same bytes. -/
def Copies (d : List Int) (w : World) (e : Ending) (w' : World) : Prop :=
  ∃ m g, e = .returned (.pointer (some ⟨m, 0, none⟩)) ∧ w.heap.size ≤ m ∧ w.heap.size ≤ g ∧ MemAt w' m g d ∧ Below w.heap.size w w'
set_option maxHeartbeats 1000000 in
theorem copy_any (w : World) (m g : Nat) (d : List Int) (h : MemAt w m g d) : Calls Tryz.prog 36 #[.pointer (some ⟨m, 0, none⟩)] w (Copies d w) := by
  obtain ⟨cap, c0, c1, hcap, hcap2⟩ := h.cells
  have hn := none_made w m c1
  obtain ⟨i0, hi, hz0, hz1, hz2⟩ := info_parts info8
  have hlt := h.lt
  have hlen := h.len
  have hb := h.bytes
  have h1 : MemAt (w.alloc (.cells #[] 5)) m g d := h.keep ((Only.refl (fun _ => False) w).alloc _) id id
  have hown : (w.alloc (.cells #[] 5)).ownsRow w.heap.size 5 1 (.slice (some ⟨w.heap.size, 0, none⟩) 0 0) 0 [] := World.ownsRow_lit w #[] 0 (Nat.le_refl _) (by unfold maxLen; omega) rfl
  have hnews := u8s_news h1
  have H := mhid h
  have q1 : (u8s d).length = d.length * 1 := by simp [u8s]
  have q2 : 0 + d.length ≤ maxLen := by unfold maxLen; omega
  have q3 : (0 + d.length) * 1 ≤ 140737488355328 := by omega
  have q4 : w.heap.size ≤ (w.alloc (.cells #[] 5)).heap.size := by simp
  have c0' : (w.alloc (.cells #[] 5)).cell? ⟨m, 0, none⟩ = some (.slice (some ⟨g, 0, none⟩) d.length cap) := by rw [World.cell?_alloc_lt _ _ _ hlt.1]; exact c0
  have Q1 := mhid q1
  clear h h1 c1 q1
  go_enter Tryz.func36, Tryz.ntmps36
  go_wp2_with fail
  refine hn.mono ?_
  rintro e w' ⟨rfl, rfl⟩
  go_wp2_with (at_builtin; refine wpList_append_own _ rfl _ _ 29 rfl w.heap.size 5 i0 (.int .u8 0) 1 1 Tryz.underlying29 hi hz0 hz1 hz2 rfl (by decide) _ 0 [] rfl hown ⟨g, 0, none⟩ d.length cap (u8s d) rfl Q1.out hnews u8s_one q2 q3 q4 ?_; intro v' w1 hown1 hgrow1 hnil; have hown2 := own_tail (k := 0) hown1; obtain ⟨g2, cap2, rfl, hg2⟩ := own_some hown2 (fun e => by cases (hnil.1 e).1))
  have hb1 : Below w.heap.size w w1 := ((Below.refl _ w).alloc (Nat.le_refl _) _).grown hgrow1 q4 (fun k e => by cases e; exact Nat.le_refl _)
  go_ret
  exact ⟨_, _, rfl, hb1.size, hg2, memAt_of_row hown2 hb hlen, hb1.alloc hb1.size _⟩
end Go.Proofs.YtgdebchbdmogcaaGreatDoor
/- The plain law of muntinlaw05.MemKeeps: what bytes a store changes. -/
namespace Go.Proofs.YtgdebchbdmogcaaGreatDoor
open Go.RowKit
set_option linter.unusedVariables false
def dI (n k : Nat) : List Int := (List.range n).map fun i => if i < k then (3 * (i : Int) + 1) % 256 else 0
theorem dI_len (n k : Nat) : (dI n k).length = n := by simp [dI]
theorem dI_zero (n : Nat) : dI n 0 = List.replicate n 0 := by
  apply List.ext_getElem <;> simp [dI]
theorem dI_set (n k : Nat) (h : k < n) : (dI n k).set k ((3 * (k : Int) + 1) % 256) = dI n (k + 1) := by
  apply List.ext_getElem
  · simp [dI]
  · intro i h1 h2
    simp [dI, List.getElem_set]
    by_cases e : k = i
    · subst e; simp
    · simp only [e, if_false]
      by_cases l : i < k
      · rw [if_pos l, if_pos (by omega)]
      · rw [if_neg l, if_neg (by omega)]
theorem dI_at (n i : Nat) (h : i < n) : (dI n n).getD i 0 = (3 * (i : Int) + 1) % 256 := by
  simp [dI, List.getD_eq_getElem?_getD, h]
theorem dI_bytes (n k : Nat) : Bytes (dI n k) := by
  intro x hx
  obtain ⟨i, _, rfl⟩ := List.mem_map.1 hx
  split <;> omega
theorem spanE_byte (n i : Nat) (h : i < n) : spanE n i 1 1 = 0 := by
  unfold spanE; rw [if_neg (by omega), if_neg (by omega), if_neg (by omega)]
theorem loadV_byte (d : List Int) (i : Nat) (h : i < d.length) : loadV d i 1 = d.getD i 0 := by
  unfold loadV; rw [if_pos (spanE_byte _ _ h)]; simp [loadS]
theorem storeV_init (n k : Nat) (h : k < n) : storeV (dI n k) k 1 (3 * (k : Int) + 1) = dI n (k + 1) := by
  unfold storeV; rw [dI_len, if_pos (spanE_byte _ _ h), ← dI_set n k h]; simp [storeS]
theorem getD_set_ne (d : List Int) (i j : Nat) (x : Int) (h : i ≠ j) : (d.set i x).getD j 0 = d.getD j 0 := by
  simp [List.getD_eq_getElem?_getD, h]
theorem getD_set_eq (d : List Int) (i : Nat) (x : Int) (h : i < d.length) : (d.set i x).getD i 0 = x := by
  simp [List.getD_eq_getElem?_getD, h]
/-- A byte beside what was stored. -/
theorem byte_out (d : List Int) (a many x : Int) (i : Nat) (ha : 0 ≤ a) (hm : many = 1 ∨ many = 4) (h : ¬ (spanE d.length a 1 many = 0 ∧ a ≤ i ∧ (i : Int) < a + many)) : (storeV d a many x).getD i 0 = d.getD i 0 := by
  unfold storeV
  split
  · rename_i h0
    have hi : ¬ (a ≤ i ∧ (i : Int) < a + many) := fun k => h ⟨h0, k.1, k.2⟩
    rcases hm with rfl | rfl
    · simp only [storeS]; rw [if_neg (by omega), getD_set_ne _ _ _ _ (by omega)]
    · simp only [storeS]; rw [if_pos (by omega), getD_set_ne _ _ _ _ (by omega), getD_set_ne _ _ _ _ (by omega), getD_set_ne _ _ _ _ (by omega), getD_set_ne _ _ _ _ (by omega)]
  · rfl
theorem byte_in1 (d : List Int) (a x : Int) (i : Nat) (ha : 0 ≤ a) (h : spanE d.length a 1 1 = 0) (hi : (i : Int) - a = 0) : (storeV d a 1 x).getD i 0 = x % 256 := by
  have h5 := (spanE_ok h ha).2.2.2
  unfold storeV; rw [if_pos h]
  obtain rfl : i = a.toNat := by omega
  simp only [storeS]; rw [if_neg (by omega), getD_set_eq _ _ _ (by omega)]
theorem byte_in4 (d : List Int) (a x : Int) (i j : Nat) (ha : 0 ≤ a) (h : spanE d.length a 1 4 = 0) (hj : j < 4) (hi : (i : Int) - a = j) : (storeV d a 4 x).getD i 0 = x / 256 ^ (3 - j) % 256 := by
  have h5 := (spanE_ok h ha).2.2.2
  unfold storeV; rw [if_pos h]
  obtain rfl : i = a.toNat + j := by omega
  simp only [storeS]; rw [if_pos (by omega)]
  have hl : a.toNat + 3 < d.length := by omega
  have hc : j = 0 ∨ j = 1 ∨ j = 2 ∨ j = 3 := by omega
  rcases hc with rfl | rfl | rfl | rfl
  · show List.getD _ a.toNat 0 = _
    rw [getD_set_eq _ _ _ (by simp; omega)]; (try simp)
  · rw [getD_set_ne _ _ _ _ (by omega), getD_set_eq _ _ _ (by simp; omega)]; (try simp)
  · rw [getD_set_ne _ _ _ _ (by omega), getD_set_ne _ _ _ _ (by omega), getD_set_eq _ _ _ (by simp; omega)]; (try simp)
  · rw [getD_set_ne _ _ _ _ (by omega), getD_set_ne _ _ _ _ (by omega), getD_set_ne _ _ _ _ (by omega), getD_set_eq _ _ _ hl]; (try simp)
theorem storeV_len (d : List Int) (a many x : Int) : (storeV d a many x).length = d.length := by unfold storeV; split <;> simp [storeS_len]
theorem back1 (d : List Int) (a x : Int) (ha : 0 ≤ a) (h : spanE d.length a 1 1 = 0) : loadV (storeV d a 1 x) a 1 = x % 256 := by
  have h5 := (spanE_ok h ha).2.2.2
  have hb := byte_in1 d a x a.toNat ha h (by omega)
  unfold loadV; rw [storeV_len, if_pos h]; simp only [loadS]; rw [if_neg (by omega)]; exact hb
theorem back4 (d : List Int) (a x : Int) (ha : 0 ≤ a) (hx : 0 ≤ x) (hx2 : x < 4294967296) (h : spanE d.length a 1 4 = 0) : loadV (storeV d a 4 x) a 4 = x := by
  have h5 := (spanE_ok h ha).2.2.2
  have b0 := byte_in4 d a x a.toNat 0 ha h (by omega) (by omega)
  have b1 := byte_in4 d a x (a.toNat + 1) 1 ha h (by omega) (by omega)
  have b2 := byte_in4 d a x (a.toNat + 2) 2 ha h (by omega) (by omega)
  have b3 := byte_in4 d a x (a.toNat + 3) 3 ha h (by omega) (by omega)
  unfold loadV; rw [storeV_len, if_pos h]; simp only [loadS]; rw [if_pos (by omega), b0, b1, b2, b3]
  simp; omega
end Go.Proofs.YtgdebchbdmogcaaGreatDoor
/- The walk of mem.Put. -/
namespace Go.Proofs.YtgdebchbdmogcaaGreatDoor
open Go.RowKit
set_option linter.unusedVariables false
theorem putS_snoc (x : Int) : ∀ (l d : List Int) (a : Nat), putS d a (l ++ [x]) = storeS (putS d a l) (a + 4 * l.length) 4 x := by
  intro l
  induction l with
  | nil => intro d a; simp [putS]
  | cons y l ih => intro d a; simp only [List.cons_append, putS]; rw [ih]; congr 1; simp; omega
theorem putS_take (l d : List Int) (a k : Nat) (hk : k < l.length) : putS d a (l.take (k + 1)) = storeS (putS d a (l.take k)) (a + 4 * k) 4 (l.getD k 0) := by
  have e : l.take (k + 1) = l.take k ++ [l.getD k 0] := by
    rw [List.take_succ_eq_append_getElem hk, List.getD_eq_getElem?_getD, List.getElem?_eq_getElem hk]; rfl
  rw [e, putS_snoc, List.length_take, Nat.min_eq_left (by omega)]
def putV (d : List Int) (a : Int) (l : List Int) : List Int := if spanE d.length a l.length 4 = 0 then putS d a.toNat l else d
def Puts (m g : Nat) (d : List Int) (a : Int) (l : List Int) (w : World) (e : Ending) (w' : World) : Prop :=
  e = .returned (.int .i64 (spanE d.length a l.length 4)) ∧ MemAt w' m g (putV d a l) ∧ Only (· = g) w w' ∧ w'.heap.size = w.heap.size
set_option maxRecDepth 100000 in
set_option maxHeartbeats 1000000 in
theorem put_any (w : World) (m g : Nat) (d : List Int) (h : MemAt w m g d) (a : Int) (ha : 0 ≤ a) (ha2 : a < 4294967296) (v : Value) (l : List Int) (hl : l.length ≤ maxLen) (hv : U32s (· = g) w v l) :
    Calls Tryz.prog 54 #[.pointer (some ⟨m, 0, none⟩), .int .u32 a, v] w (Puts m g d a l w) := by
  unfold maxLen at hl
  have hs := span_any w m g d h a l.length 4 ha ha2 (by omega)
  have HS := mhid hs
  have H := mhid h
  clear hs h
  obtain ⟨hw, p, c, rfl, hv⟩ := hv
  have HV := mhid hv
  clear hv
  go_enter Tryz.func54, Tryz.ntmps54
  go_wp2_with fail
  refine HS.out.mono ?_
  rintro e w' (⟨he, ⟨v, rfl, b, rfl, hb⟩, rfl⟩ | ⟨he, rfl, rfl⟩)
  · obtain ⟨_, _, h4, h5⟩ := spanE_ok he ha
    have HE := mhid he
    clear he HS
    by_cases h0 : l.length = 0
    · obtain rfl : l = [] := List.length_eq_zero_iff.1 h0
      clear h0 hb
      go_wp2_with fail
      go_rounds 1
      go_ret
      refine ⟨mret_i HE.out.symm, ?_, Only.refl _ _, rfl⟩
      rw [show putV d a [] = d from by unfold putV; split <;> rfl]; exact H.out
    · have hb2 : b = a.toNat := by omega
      subst hb2
      clear hb
      have hl4 : ((4 * (l.length : Int)).toNat : Nat) = 4 * l.length := by omega
      rw [hl4]
      clear hl4
      · obtain ⟨b, o, rfl, hb1, hb2, hc⟩ := HV.out (by omega)
        have hbs2 : ¬ b = g ∧ b < w.heap.size := ⟨hb1, hb2⟩
        have HC := mhid hc
        have h0' : 0 < l.length := by omega
        clear hc HV h0 hb1 hb2
        go_wp2_with fail
        go_loopw [9, 21] (fun _ i wr => ∃ k : Nat, k ≤ l.length ∧ i = .int .i64 k ∧ MemAt wr m g (putS d a.toNat (l.take k)) ∧ Only (· = g) w wr ∧ wr.heap.size = w.heap.size) (fun _ i _ => l.length - (intOf i).toNat)
        case atStart => exact ⟨0, Nat.zero_le _, rfl, H.out, Only.refl _ _, rfl⟩
        case round =>
          obtain ⟨k, hk, rfl, hmem, honly, hsz⟩ := hrel
          have hlen := hmem.len
          by_cases hlt : k < l.length
          · have hcell : wr.cell? ⟨b, o + k, none⟩ = some (.int .u32 (l.getD k 0)) := (honly.cell (p := ⟨b, o + k, none⟩) hbs2.2 hbs2.1).trans (HC.out k hlt)
            have hx := hw.at k
            have hlen2 := putS_len (l.take k) d a.toNat
            rw [hlen2] at hlen
            have HM := mhid hmem
            have HO := mhid honly
            clear hmem honly hlen2 HC
            have hpt := putS_take l d a.toNat k hlt
            have HP := mhid hpt
            clear hpt
            generalize l.getD k 0 = x at hcell hx HP
            have hk4 : (k : Int) < l.length := by omega
            go_wp2_with fail
            have f1 : IntKind.i64.wrap (4 * (k : Int)) = 4 * (k : Int) := IntWalk.i64_in _ (by omega)
            have f2 : IntKind.i64.wrap (4 * (k : Int) + 4) = 4 * (k : Int) + 4 := IntWalk.i64_in _ (by omega)
            have f3 : (0 : Int) ≤ 4 * (k : Int) := by omega
            have f4 : (0 : Int) ≤ 4 * (k : Int) + 4 := by omega
            have f5 : (4 * (k : Int) + 4).toNat = 4 * k + 4 := by omega
            have f6 : (4 * (k : Int)).toNat = 4 * k := by omega
            have f7 : 4 * (k : Int) + 4 ≤ 4 * (l.length : Int) := by omega
            have f8 : ¬ 4 * l.length = 4 * k := by omega
            have f9 : 4 * (k : Int) ≤ 4 * (k : Int) + 4 := by omega
            go_still_tail 11, (by kernel_rfl)
            have HF := mhid (And.intro f1 f2)
            clear f1 f2 f3 f4 f5 f6 f7 f8 f9
            change wpList _ _ _ _ _ wr.drew
            have HM2 : MemAt wr.drew m g (putS d a.toNat (l.take k)) := HM.out.keep ((Only.refl (fun _ => False) wr).drew) id id
            have HO2 : Only (· = g) w wr.drew := HO.out.drew
            have hsz2 : wr.drew.heap.size = w.heap.size := hsz
            generalize wr.drew = w2 at HM2 HO2 hsz2 ⊢
            go_wp2_with fail
            refine (lay_four _ m g _ HM2 (a.toNat + 4 * k) _ _ hx.1 hx.2 (by rw [putS_len]; omega)).mono ?_
            rintro e w' ⟨rfl, rfl⟩
            have HM3 := HM2.laid4 (a := a.toNat + 4 * k) (x := x) (by rw [putS_len]; omega)
            rw [← HP.out] at HM3
            have HO3 := HO2.trans (laid4_only w2 g (a.toNat + 4 * k) x)
            have hs3 : (laid4 w2 g (a.toNat + 4 * k) x).heap.size = w.heap.size := by simp [laid4, hsz2]
            generalize laid4 w2 g (a.toNat + 4 * k) x = w3 at HM3 HO3 hs3 ⊢
            clear HM2 HO2 HM HO
            have G3 := mhid (And.intro HM3 (And.intro HO3 hs3))
            clear HM3 HO3 hs3
            go_wp2_with fail
            go_roundw
            case rel => exact ⟨k + 1, by omega, by go_num, G3.out.1, G3.out.2.1, G3.out.2.2⟩
            case measure => simp [intOf] <;> omega
          · obtain rfl : k = l.length := by omega
            go_wp2_with fail
            go_ret
            refine ⟨mret_i HE.out.symm, ?_, honly, hsz⟩
            rw [show putV d a l = putS d a.toNat l from if_pos HE.out]
            rw [List.take_length] at hmem
            exact hmem
  · clear HS
    have e0 : putV d a l = d := if_neg he
    have E0 := mhid e0
    clear e0
    go_wp2_with fail
    go_rounds 1
    go_ret
    exact ⟨mret_i rfl, by rw [E0.out]; exact H.out, Only.refl _ _, rfl⟩
end Go.Proofs.YtgdebchbdmogcaaGreatDoor
/- The walk of mem.Words. -/
namespace Go.Proofs.YtgdebchbdmogcaaGreatDoor
open Go.RowKit
set_option linter.unusedVariables false
theorem wordsS_succ (d : List Int) (a k : Nat) : wordsS d a (k + 1) = wordsS d a k ++ [loadS d (a + 4 * k) 4] := by
  unfold wordsS; rw [List.range_succ, List.map_append]; rfl
theorem wordsS_len (d : List Int) (a k : Nat) : (wordsS d a k).length = k := by simp [wordsS]
theorem wordsS_words {d : List Int} (h : Bytes d) (a k : Nat) : Words (wordsS d a k) := by
  intro x hx
  obtain ⟨i, _, rfl⟩ := List.mem_map.1 hx
  have := loadS_bd h (a + 4 * i) 4; exact ⟨this.1, this.2.1⟩
/-- What Words answers: the words, in memory of the call's own, and the error. -/
def Tells (d : List Int) (a n : Int) (w : World) (e : Ending) (w' : World) : Prop :=
  ∃ v l, e = .returned (.tuple #[v, .int .i64 (spanE d.length a n 4)]) ∧ l = (if spanE d.length a n 4 = 0 then wordsS d a.toNat n.toNat else []) ∧ w'.ownsRow w.heap.size 22 1 v l.length (u32s l) ∧ Below w.heap.size w w'
theorem tell_ret {v : Value} {e e' : Int} (h : e = e') : Ending.returned (.tuple #[v, .int .i64 e]) = .returned (.tuple #[v, .int .i64 e']) := by rw [h]
theorem own_nil (w : World) (b : Nat) : w.ownsRow b 22 1 (.slice none 0 0) ([] : List Int).length (u32s []) := World.ownsRow_nil w b _ _
set_option maxHeartbeats 1000000 in
theorem words_any (w : World) (m g : Nat) (d : List Int) (h : MemAt w m g d) (a : Int) (ha : 0 ≤ a) (ha2 : a < 4294967296) (n : Int) (hn : n ≤ 9223372036854775807) :
    Calls Tryz.prog 15 #[.pointer (some ⟨m, 0, none⟩), .int .u32 a, .int .i64 n] w (Tells d a n w) := by
  have hs := span_any w m g d h a n 4 ha ha2 hn
  have HS := mhid hs
  have H := mhid h
  have hlen := h.len
  clear hs h
  obtain ⟨i0, hi, hz0, hz1, hz2⟩ := info_parts info32
  go_enter Tryz.func15, Tryz.ntmps15
  go_wp2_with fail
  refine HS.out.mono ?_
  rintro e w' (⟨he, ⟨v, rfl, b, rfl, hb⟩, rfl⟩ | ⟨he, rfl, rfl⟩)
  · obtain ⟨h3, _, h4, h5⟩ := spanE_ok he ha
    have HE := mhid he
    clear he HS
    obtain ⟨N, rfl⟩ := Int.eq_ofNat_of_zero_le h3
    have hl4 : ((4 * (N : Int)).toNat : Nat) = 4 * N := by omega
    rw [hl4]
    clear hl4 h3 hn
    by_cases h0 : N = 0
    · subst h0
      clear hb
      go_wp2_with fail
      go_rounds 1
      go_ret2
      exact ⟨_, [], tell_ret HE.out.symm, by rw [if_pos HE.out]; rfl, own_nil _ _, Below.refl _ _⟩
    · have hb2 : b = a.toNat := by omega
      subst hb2
      clear hb
      have h0' : 0 < N := by omega
      clear h0
      go_wp2_with fail
      go_loopw [10, 11, 22] (fun v _ i wr => ∃ k : Nat, k ≤ N ∧ i = .int .i64 k ∧ wr.ownsRow w.heap.size 22 1 v k (u32s (wordsS d a.toNat k)) ∧ Below w.heap.size w wr) (fun _ _ i _ => N - (intOf i).toNat)
      case atStart => exact ⟨0, Nat.zero_le _, rfl, World.ownsRow_nil _ _ _ _, Below.refl _ _⟩
      case round =>
        obtain ⟨k, hk, rfl, hown, hbl⟩ := hrel
        by_cases hlt : k < N
        · have hmem : MemAt wr m g d := H.out.keep (Only.of_below (S := fun _ => False) hbl) id id
          have q2 : k + 1 ≤ maxLen := by unfold maxLen; omega
          have q3 : (k + 1) * 4 ≤ 140737488355328 := by omega
          have q4 := hbl.size
          have q5 : w.heap.size ≤ wr.heap.size + 1 := by omega
          have hx := loadS_bd H.out.bytes (a.toNat + 4 * k) 4
          have hwd := mword_any wr m g d hmem (a.toNat + 4 * k) 4 (4 * N - 4 * k) (by omega) (by omega)
          rw [beS_four] at hwd
          have hsu := wordsS_succ d a.toNat k
          have HSU := mhid hsu
          have HW := mhid hwd
          have HB := mhid hbl
          clear hsu hwd hmem hbl
          generalize loadS d (a.toNat + 4 * k) 4 = x at hx HSU HW
          have hk4 : (k : Int) < N := by omega
          go_wp2_with fail
          refine HW.out.mono ?_
          rintro e w' ⟨rfl, rfl⟩
          clear HW
          go_wp2_with (at_builtin; refine wpList_append_own _ rfl _ _ 25 rfl w.heap.size 22 i0 (.int .u32 0) 1 4 Tryz.underlying25 hi hz0 hz1 hz2 rfl (by decide) _ k (u32s (wordsS d a.toNat k)) rfl (hown.alloc _) ⟨wr.heap.size, 0, none⟩ 1 1 [.int .u32 x] rfl rfl (cell_one_new _ _ _) (by simp [Value.oneCell']) q2 q3 (by simpa using q5) ?_; intro v' w1 hown1 hgrow1 hnil)
          have hb1 : Below w.heap.size w w1 := (HB.out.alloc q4 _).grown hgrow1 (by simpa using q5) (fun r e => ((hown.alloc (.cells #[.int .u32 x] 22)).lt r e).1)
          go_roundw
          case rel => exact ⟨k + 1, by omega, by go_num, by rw [HSU.out]; simpa [u32s] using hown1, hb1⟩
          case measure => simp [intOf] <;> omega
        · obtain rfl : k = N := by omega
          go_wp2_with fail
          go_ret2
          exact ⟨_, wordsS d a.toNat k, tell_ret HE.out.symm, by rw [if_pos HE.out]; rfl, by rw [wordsS_len]; exact hown, hbl⟩
  · clear HS
    have HE := mhid he
    clear he
    go_wp2_with fail
    go_rounds 1
    go_ret2
    exact ⟨_, [], rfl, by rw [if_neg HE.out], own_nil _ _, Below.refl _ _⟩

set_option maxHeartbeats 400000 in
theorem words_nil (w : World) (a n : Int) : Calls Tryz.prog 15 #[.pointer none, .int .u32 a, .int .i64 n] w fun e w' => e = .returned (.tuple #[.slice none 0 0, .int .i64 1]) ∧ w = w' := by
  have hs := span_nil w a n 4
  go_enter Tryz.func15, Tryz.ntmps15
  go_wp2_with fail
  refine hs.mono ?_
  rintro e w' ⟨rfl, rfl⟩
  go_wp2_with fail
  go_rounds 1
  go_ret2
  exact ⟨rfl, rfl⟩
set_option maxHeartbeats 400000 in
theorem put_nil (w : World) (a : Int) (p : Option Addr) (n c : Nat) : Calls Tryz.prog 54 #[.pointer none, .int .u32 a, .slice p n c] w fun e w' => e = .returned (.int .i64 1) ∧ w = w' := by
  have hs := span_nil w a n 4
  go_enter Tryz.func54, Tryz.ntmps54
  go_wp2_with fail
  refine hs.mono ?_
  rintro e w' ⟨rfl, rfl⟩
  go_wp2_with fail
  go_rounds 1
  go_ret
  exact ⟨rfl, rfl⟩

set_option maxHeartbeats 400000 in
theorem words_unmade (w : World) (m : Nat) (h : w.cell? ⟨m, 1, none⟩ = some (.bool false)) (a n : Int) : Calls Tryz.prog 15 #[.pointer (some ⟨m, 0, none⟩), .int .u32 a, .int .i64 n] w fun e w' => e = .returned (.tuple #[.slice none 0 0, .int .i64 1]) ∧ w = w' := by
  have hs := span_unmade w m h a n 4
  go_enter Tryz.func15, Tryz.ntmps15
  go_wp2_with fail
  refine hs.mono ?_
  rintro e w' ⟨rfl, rfl⟩
  go_wp2_with fail
  go_rounds 1
  go_ret2
  exact ⟨rfl, rfl⟩
set_option maxHeartbeats 400000 in
theorem put_unmade (w : World) (m : Nat) (h : w.cell? ⟨m, 1, none⟩ = some (.bool false)) (a : Int) (p : Option Addr) (n c : Nat) : Calls Tryz.prog 54 #[.pointer (some ⟨m, 0, none⟩), .int .u32 a, .slice p n c] w fun e w' => e = .returned (.int .i64 1) ∧ w = w' := by
  have hs := span_unmade w m h a n 4
  go_enter Tryz.func54, Tryz.ntmps54
  go_wp2_with fail
  refine hs.mono ?_
  rintro e w' ⟨rfl, rfl⟩
  go_wp2_with fail
  go_rounds 1
  go_ret
  exact ⟨rfl, rfl⟩
end Go.Proofs.YtgdebchbdmogcaaGreatDoor
/- The plain law of muntinlaw05.MemApart and MemWords: words stored apart, rows put at once. -/
namespace Go.Proofs.YtgdebchbdmogcaaGreatDoor
open Go.RowKit
set_option linter.unusedVariables false
theorem spanE_word (n a : Nat) (h : a % 4 = 0) (h2 : a + 4 ≤ n) : spanE n a 1 4 = 0 := by
  unfold spanE; rw [if_neg (by omega), if_neg (by omega), if_neg (by omega)]
theorem storeV_word (d : List Int) (a : Nat) (x : Int) (h : a % 4 = 0) (h2 : a + 4 ≤ d.length) : storeV d a 4 x = storeS d a 4 x := by
  unfold storeV; rw [if_pos (spanE_word _ _ h h2)]; rfl
theorem loadV_word (d : List Int) (a : Nat) (h : a % 4 = 0) (h2 : a + 4 ≤ d.length) : loadV d a 4 = loadS d a 4 := by
  unfold loadV; rw [if_pos (spanE_word _ _ h h2)]; rfl
theorem store_byte_in (d : List Int) (a j : Nat) (x : Int) (hj : j < 4) (h2 : a + 4 ≤ d.length) : (storeS d a 4 x).getD (a + j) 0 = x / 256 ^ (3 - j) % 256 := by
  simp only [storeS]; rw [if_pos trivial]
  have hc : j = 0 ∨ j = 1 ∨ j = 2 ∨ j = 3 := by omega
  rcases hc with rfl | rfl | rfl | rfl
  · show List.getD _ a 0 = _
    rw [getD_set_eq _ _ _ (by simp; omega)]; (try simp)
  · rw [getD_set_ne _ _ _ _ (by omega), getD_set_eq _ _ _ (by simp; omega)]; (try simp)
  · rw [getD_set_ne _ _ _ _ (by omega), getD_set_ne _ _ _ _ (by omega), getD_set_eq _ _ _ (by simp; omega)]; (try simp)
  · rw [getD_set_ne _ _ _ _ (by omega), getD_set_ne _ _ _ _ (by omega), getD_set_ne _ _ _ _ (by omega), getD_set_eq _ _ _ (by omega)]; (try simp)
theorem store_byte_out (d : List Int) (a i : Nat) (x : Int) (h : ¬ (a ≤ i ∧ i < a + 4)) : (storeS d a 4 x).getD i 0 = d.getD i 0 := by
  simp only [storeS]; rw [if_pos trivial, getD_set_ne _ _ _ _ (by omega), getD_set_ne _ _ _ _ (by omega), getD_set_ne _ _ _ _ (by omega), getD_set_ne _ _ _ _ (by omega)]
theorem ext_getD {a b : List Int} (h : a.length = b.length) (h2 : ∀ i, i < a.length → a.getD i 0 = b.getD i 0) : a = b := by
  apply List.ext_getElem h
  intro i h3 h4
  have := h2 i h3
  simpa [List.getD_eq_getElem?_getD, h3, h4] using this
theorem store_comm (d : List Int) (a b : Nat) (x y : Int) (ha : a + 4 ≤ d.length) (hb : b + 4 ≤ d.length) (h : a + 4 ≤ b ∨ b + 4 ≤ a) : storeS (storeS d a 4 x) b 4 y = storeS (storeS d b 4 y) a 4 x := by
  apply ext_getD (by simp [storeS_len])
  intro i _
  by_cases h1 : b ≤ i ∧ i < b + 4
  · obtain ⟨j, rfl⟩ := Nat.exists_eq_add_of_le h1.1
    rw [store_byte_in _ _ _ _ (by omega) (by rw [storeS_len]; omega), store_byte_out _ _ _ _ (by omega), store_byte_in _ _ _ _ (by omega) (by omega)]
  · by_cases h2 : a ≤ i ∧ i < a + 4
    · obtain ⟨j, rfl⟩ := Nat.exists_eq_add_of_le h2.1
      rw [store_byte_out _ _ _ _ h1, store_byte_in _ _ _ _ (by omega) (by omega), store_byte_in _ _ _ _ (by omega) (by rw [storeS_len]; omega)]
    · rw [store_byte_out _ _ _ _ h1, store_byte_out _ _ _ _ h2, store_byte_out _ _ _ _ h2, store_byte_out _ _ _ _ h1]
theorem load_store (d : List Int) (a : Nat) (x : Int) (ha : a + 4 ≤ d.length) (hx : 0 ≤ x) (hx2 : x < 4294967296) : loadS (storeS d a 4 x) a 4 = x := by
  have b0 := store_byte_in d a 0 x (by omega) ha
  have b1 := store_byte_in d a 1 x (by omega) ha
  have b2 := store_byte_in d a 2 x (by omega) ha
  have b3 := store_byte_in d a 3 x (by omega) ha
  unfold loadS; rw [if_pos rfl]; rw [Nat.add_zero] at b0; rw [b0, b1, b2, b3]; simp; omega
theorem load_store_ne (d : List Int) (a b : Nat) (x : Int) (h : a + 4 ≤ b ∨ b + 4 ≤ a) : loadS (storeS d a 4 x) b 4 = loadS d b 4 := by
  unfold loadS; rw [if_pos rfl, if_pos rfl, store_byte_out _ _ _ _ (by omega), store_byte_out _ _ _ _ (by omega), store_byte_out _ _ _ _ (by omega), store_byte_out _ _ _ _ (by omega)]
/-- Putting all words of d over whatever bytes gives d. -/
theorem put_words {d z : List Int} (hd : Bytes d) (hz : z.length = d.length) : ∀ n, 4 * n ≤ d.length → ∀ i, i < d.length → (putS z 0 (wordsS d 0 n)).getD i 0 = if i < 4 * n then d.getD i 0 else z.getD i 0 := by
  intro n
  induction n with
  | zero => intro _ i _; simp [wordsS, putS]
  | succ n ih =>
    intro hn i hi
    have e : putS z 0 (wordsS d 0 (n + 1)) = storeS (putS z 0 (wordsS d 0 n)) (4 * n) 4 (loadS d (4 * n) 4) := by
      rw [wordsS_succ, putS_snoc, wordsS_len, Nat.zero_add]
    rw [e]
    have hl := putS_len (wordsS d 0 n) z 0
    have h0 := hd.at (4 * n); have h1 := hd.at (4 * n + 1); have h2 := hd.at (4 * n + 2); have h3 := hd.at (4 * n + 3)
    by_cases h : 4 * n ≤ i ∧ i < 4 * n + 4
    · obtain ⟨j, rfl⟩ := Nat.exists_eq_add_of_le h.1
      rw [store_byte_in _ _ _ _ (by omega) (by omega), if_pos (by omega)]
      have hc : j = 0 ∨ j = 1 ∨ j = 2 ∨ j = 3 := by omega
      unfold loadS; rw [if_pos rfl]
      rcases hc with rfl | rfl | rfl | rfl <;> simp <;> simp only [List.getD_eq_getElem?_getD] at h0 h1 h2 h3 <;> omega
    · rw [store_byte_out _ _ _ _ h, ih (by omega) i hi]
      by_cases h4 : i < 4 * n
      · rw [if_pos h4, if_pos (by omega)]
      · rw [if_neg h4, if_neg (by omega)]
theorem put_all {d z : List Int} (hd : Bytes d) (hz : z.length = d.length) (n : Nat) (hn : d.length = 4 * n) : putS z 0 (wordsS d 0 n) = d := by
  apply ext_getD (by rw [putS_len, hz])
  intro i hi
  rw [putS_len, hz] at hi
  rw [put_words hd hz n (by omega) i hi, if_pos (by omega)]
theorem wordsS_at (d : List Int) (a n i : Nat) (h : i < n) : (wordsS d a n).getD i 0 = loadS d (a + 4 * i) 4 := by
  simp [wordsS, List.getD_eq_getElem?_getD, h]
theorem spanE_row (n a k : Nat) (h : a % 4 = 0) (h2 : a + 4 * k ≤ n) : spanE n a k 4 = 0 := by
  unfold spanE; rw [if_neg (by omega), if_neg (by omega), if_neg (by omega)]
/-- The last byte of a word. -/
theorem last_byte {d : List Int} (hd : Bytes d) (a : Nat) : d.getD (a + 3) 0 = loadS d a 4 % 256 := by
  have h3 := hd.at (a + 3)
  unfold loadS; rw [if_pos rfl]; omega
end Go.Proofs.YtgdebchbdmogcaaGreatDoor
