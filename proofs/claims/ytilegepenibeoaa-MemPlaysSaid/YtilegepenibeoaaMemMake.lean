/- The walks of mem.New, Copy, Put and Words. -/
import Derived.Test.YtilegepenibeoaaMemLoad
namespace Go.Proofs.Ytilegepenibeoaa
open Go.RowKit
set_option linter.unusedVariables false
theorem info8 : (Try.prog.info? 5).map (fun i => (i.zero, i.size, i.bytes)) = some (some (.int .u8 0), 1, 1) := by kernel_rfl
theorem info32 : (Try.prog.info? 31).map (fun i => (i.zero, i.size, i.bytes)) = some (some (.int .u32 0), 1, 4) := by kernel_rfl
/-- A row of bytes of one's own, and a memory's struct over it. -/
theorem memAt_of_row {w : World} {base n : Nat} {d : List Int} {g cap : Nat} (h : w.ownsRow base 5 1 (.slice (some ⟨g, 0, none⟩) n cap) n (u8s d)) (hb : Bytes d) (hl : d.length ≤ 4194304) :
    MemAt (w.alloc (.cells #[.slice (some ⟨g, 0, none⟩) n cap, .bool true] 73)) w.heap.size g d := by
  obtain ⟨hn, h2⟩ := h
  have hn2 : d.length = n := by simpa [u8s] using hn
  rcases h2 with ⟨h2, _⟩ | ⟨g', cap', cur, hv, hg, hh, hc, hm, hs, ht⟩
  · cases h2
  · cases hv
    have hlt := lt_of_block hh
    refine ⟨⟨cap, ?_, by omega, hm⟩, ⟨cur.toList.drop (n * 1), ?_⟩, hb, by omega, hl⟩
    · rw [hn2]; show (w.heap.push _)[w.heap.size]? = _; simp
    · rw [Below.heap_alloc _ _ _ hlt, hh, ← ht, List.take_append_drop]
theorem new_err (n : Int) (w : World) (h : n < 0 ∨ 4194304 < n ∨ n % 4 ≠ 0) : Calls Try.prog 5 #[.int .i64 n] w fun e w' => e = .returned (.tuple #[.pointer none, .int .i64 2]) ∧ w = w' := by
  by_cases h1 : n < 0
  · go_enter Try.func5, Try.ntmps5
    go_wp2
    go_ret2
    exact ⟨rfl, rfl⟩
  · by_cases h2 : 4194304 < n
    · go_enter Try.func5, Try.ntmps5
      go_wp2
      go_ret2
      exact ⟨rfl, rfl⟩
    · have h3 : ¬ n % 4 = 0 := by omega
      go_enter Try.func5, Try.ntmps5
      go_wp2
      go_ret2
      exact ⟨rfl, rfl⟩
/-- What New makes: a memory of n bytes, all of them 0. -/
def Makes (n : Nat) (w : World) (e : Ending) (w' : World) : Prop :=
  ∃ m g, e = .returned (.tuple #[.pointer (some ⟨m, 0, none⟩), .int .i64 0]) ∧ w.heap.size ≤ m ∧ w.heap.size ≤ g ∧ MemAt w' m g (List.replicate n 0) ∧ Below w.heap.size w w'
set_option maxHeartbeats 400000 in
theorem new_ok (n : Nat) (w : World) (h : n ≤ 4194304) (h4 : n % 4 = 0) : Calls Try.prog 5 #[.int .i64 n] w (Makes n w) := by
  obtain ⟨i0, hi, hz0, hz1, hz2⟩ := info_parts info8
  have hq2 : i0.bytes * n ≤ 281474976710656 := by rw [hz2]; omega
  have hq3 : n ≤ maxLen := by unfold maxLen; omega
  have h5 : ¬ ((n : Int) < 0) := by omega
  have h6 : ¬ (4194304 < (n : Int)) := by omega
  have h7 : (n : Int) % 4 = 0 := by omega
  go_enter Try.func5, Try.ntmps5
  go_wp2_with (at_make; refine wpList_make_full _ rfl _ _ 30 rfl w.heap.size 5 i0 (.int .u8 0) 1 Try.underlying30 hi hz0 hz1 .i64 .i64 n n n rfl rfl rfl rfl hq2 hq3 (Nat.le_refl _) ?_; intro w1 hown hgrow)
  have hsz := hgrow.size
  have hr : (madeCells (Value.int .u8 0).cells (n * 1)).toList = u8s (List.replicate n 0) := by
    rw [Nat.mul_one]; unfold u8s; rw [List.map_replicate]; exact toList_madeCells_one _ n
  rw [hr] at hown
  go_wp2
  go_ret2
  exact ⟨_, _, rfl, hsz, Nat.le_refl _, memAt_of_row hown (Bytes.zeros n) (by simpa using h), ((Below.refl _ w).grown hgrow (Nat.le_refl _) (fun k e => by cases e)).alloc hsz _⟩

theorem own_some {w : World} {base size n : Nat} {e : TypeId} {v : Value} {xs : List Value} (h : w.ownsRow base e size v n xs) (hv : v ≠ .slice none 0 0) : ∃ g cap, v = .slice (some ⟨g, 0, none⟩) n cap ∧ base ≤ g := by
  rcases h.2 with ⟨h1, _⟩ | ⟨g, cap, cur, h1, h2, _⟩
  · exact absurd h1 hv
  · exact ⟨g, cap, h1, h2⟩
theorem own_tail {w : World} {base size n k : Nat} {e : TypeId} {v : Value} {xs : List Value} (h : w.ownsRow base e size v (0 + n) ([] ++ xs)) : w.ownsRow base e size v n xs := by simpa using h
theorem u8s_news {w : World} {m g : Nat} {d : List Int} (h : MemAt w m g d) : ∀ j u, (u8s d)[j]? = some u → w.cell? ((⟨g, 0, none⟩ : Addr).add j) = some u := by
  intro j u hj
  have hlt : j < d.length := by
    have := (List.getElem?_eq_some_iff.1 hj).1; simpa [u8s] using this
  have hb := h.byte hlt
  rw [show (⟨g, 0, none⟩ : Addr).add j = ⟨g, j, none⟩ from by unfold Addr.add; split <;> simp [*]]
  rw [hb, ← hj]
  simp [u8s, hlt]
theorem u8s_one {d : List Int} : ∀ u ∈ u8s d, u.oneCell' = true := by
  intro u hu; unfold u8s at hu; obtain ⟨x, _, rfl⟩ := List.mem_map.1 hu; rfl
theorem u32s_one {d : List Int} : ∀ u ∈ u32s d, u.oneCell' = true := by
  intro u hu; unfold u32s at hu; obtain ⟨x, _, rfl⟩ := List.mem_map.1 hu; rfl
/-- What Copy makes: a memory of its own with the same bytes. -/
def Copies (d : List Int) (w : World) (e : Ending) (w' : World) : Prop :=
  ∃ m g, e = .returned (.pointer (some ⟨m, 0, none⟩)) ∧ w.heap.size ≤ m ∧ w.heap.size ≤ g ∧ MemAt w' m g d ∧ Below w.heap.size w w'
set_option maxHeartbeats 1000000 in
theorem copy_any (w : World) (m g : Nat) (d : List Int) (h : MemAt w m g d) : Calls Try.prog 9 #[.pointer (some ⟨m, 0, none⟩)] w (Copies d w) := by
  obtain ⟨cap, c0, c1, hcap, hcap2⟩ := h.cells
  have hn := none_made w m c1
  obtain ⟨i0, hi, hz0, hz1, hz2⟩ := info_parts info8
  have hlt := h.lt
  have hlen := h.len
  have hb := h.bytes
  have h1 : MemAt (w.alloc (.cells #[] 5)) m g d := h.keep ((Only.refl (fun _ => False) w).alloc _) id id
  have hown : (w.alloc (.cells #[] 5)).ownsRow w.heap.size 5 1 (.slice (some ⟨w.heap.size, 0, none⟩) 0 0) 0 [] := World.ownsRow_lit w #[] 0 (Nat.le_refl _) (by unfold maxLen; omega) rfl
  have hnews := u8s_news h1
  have H := mhid h
  have q1 : (u8s d).length = d.length * 1 := by simp [u8s]
  have q2 : 0 + d.length ≤ maxLen := by unfold maxLen; omega
  have q3 : (0 + d.length) * 1 ≤ 140737488355328 := by omega
  have q4 : w.heap.size ≤ (w.alloc (.cells #[] 5)).heap.size := by simp
  have c0' : (w.alloc (.cells #[] 5)).cell? ⟨m, 0, none⟩ = some (.slice (some ⟨g, 0, none⟩) d.length cap) := by rw [World.cell?_alloc_lt _ _ _ hlt.1]; exact c0
  have Q1 := mhid q1
  clear h h1 c1 q1
  go_enter Try.func9, Try.ntmps9
  go_wp2_with fail
  refine hn.mono ?_
  rintro e w' ⟨rfl, rfl⟩
  go_wp2_with (at_builtin; refine wpList_append_own _ rfl _ _ 30 rfl w.heap.size 5 i0 (.int .u8 0) 1 1 Try.underlying30 hi hz0 hz1 hz2 rfl (by decide) _ 0 [] rfl hown ⟨g, 0, none⟩ d.length cap (u8s d) rfl Q1.out hnews u8s_one q2 q3 q4 ?_; intro v' w1 hown1 hgrow1 hnil; have hown2 := own_tail (k := 0) hown1; obtain ⟨g2, cap2, rfl, hg2⟩ := own_some hown2 (fun e => by cases (hnil.1 e).1))
  have hb1 : Below w.heap.size w w1 := ((Below.refl _ w).alloc (Nat.le_refl _) _).grown hgrow1 q4 (fun k e => by cases e; exact Nat.le_refl _)
  go_ret
  exact ⟨_, _, rfl, hb1.size, hg2, memAt_of_row hown2 hb hlen, hb1.alloc hb1.size _⟩
end Go.Proofs.Ytilegepenibeoaa
