/- The walks of the document's answer for the memory (muntinref05). -/
import Derived.Test.YtilegepenibeoaaMemHead
import Derived.Test.YtilegepenibeoaaMemApartLaw
namespace Go.Proofs.Ytilegepenibeoaa
open Go.RowKit
set_option linter.unusedVariables false
set_option linter.unusedSimpArgs false
/-- A row of bytes of the call's own. -/
structure RefAt (w : World) (B g cap : Nat) (d : List Int) : Prop where
  own : w.ownsRow B 5 1 (.slice (some ⟨g, 0, none⟩) d.length cap) d.length (u8s d)
  bytes : Bytes d
  len : d.length ≤ 4194304
theorem RefAt.row {w : World} {B g cap : Nat} {d : List Int} (h : RefAt w B g cap d) : ∃ cur, B ≤ g ∧ w.heap[g]? = some (.cells cur 5 (0, 0)) ∧ d.length ≤ cap ∧ cap ≤ maxLen ∧ cur.size = cap ∧ cur.toList.take d.length = u8s d := by
  rcases h.own.2 with ⟨h1, _⟩ | ⟨g', cap', cur, hv, hg, hh, hc, hm, hs, ht⟩
  · cases h1
  · cases hv
    exact ⟨cur, hg, hh, hc, hm, by omega, by rw [← ht, Nat.mul_one]⟩
theorem RefAt.mk' {w : World} {B g cap : Nat} {d : List Int} {cur : Array Value} (hb : Bytes d) (hl : d.length ≤ 4194304) (hg : B ≤ g) (hh : w.heap[g]? = some (.cells cur 5 (0, 0))) (hc : d.length ≤ cap) (hm : cap ≤ maxLen) (hs : cur.size = cap) (ht : cur.toList.take d.length = u8s d) : RefAt w B g cap d :=
  ⟨⟨by simp [u8s], .inr ⟨g, cap, cur, rfl, hg, hh, hc, hm, by omega, by rw [Nat.mul_one]; exact ht⟩⟩, hb, hl⟩
theorem RefAt.keep {S : Nat → Prop} {a b : World} {B g cap : Nat} {d : List Int} (h : RefAt a B g cap d) (o : Only S a b) (hg : ¬ S g) : RefAt b B g cap d := by
  obtain ⟨cur, h1, h2, h3, h4, h5, h6⟩ := h.row
  exact RefAt.mk' h.bytes h.len h1 (o.obj h2 hg) h3 h4 h5 h6
theorem RefAt.lt {w : World} {B g cap : Nat} {d : List Int} (h : RefAt w B g cap d) : B ≤ g ∧ g < w.heap.size := by
  obtain ⟨cur, h1, h2, _⟩ := h.row
  exact ⟨h1, lt_of_block h2⟩
theorem RefAt.base {w : World} {B B' g cap : Nat} {d : List Int} (h : RefAt w B g cap d) (hB : B' ≤ g) : RefAt w B' g cap d := by
  obtain ⟨cur, h1, h2, h3, h4, h5, h6⟩ := h.row
  exact RefAt.mk' h.bytes h.len hB h2 h3 h4 h5 h6
theorem RefAt.byte {w : World} {B g cap : Nat} {d : List Int} (h : RefAt w B g cap d) {i : Nat} (hi : i < d.length) : w.cell? ⟨g, i, none⟩ = some (.int .u8 (d.getD i 0)) := by
  obtain ⟨cur, h1, h2, h3, h4, h5, h6⟩ := h.row
  rw [cell_of_obj h2]
  have e : cur[i]? = (cur.toList.take d.length)[i]? := by rw [List.getElem?_take_of_lt hi]; simp
  rw [e, h6]; simp [u8s, hi]
theorem RefAt.free {w : World} {B g cap : Nat} {d : List Int} (h : RefAt w B g cap d) (i : Nat) : w.frozen? ⟨g, i, none⟩ = false := by
  obtain ⟨cur, h1, h2, _⟩ := h.row
  exact free_of_obj h2
theorem RefAt.set {w : World} {B g cap : Nat} {d : List Int} (h : RefAt w B g cap d) {i : Nat} (hi : i < d.length) {x : Int} (hx : 0 ≤ x ∧ x < 256) : RefAt (w.setCell ⟨g, i, none⟩ (.int .u8 x)) B g cap (d.set i x) := by
  obtain ⟨cur, h1, h2, h3, h4, h5, h6⟩ := h.row
  refine RefAt.mk' (h.bytes.set i hx) (by simpa using h.len) h1 (obj_setCell h2 _) (by simpa using h3) h4 (by simpa using h5) ?_
  rw [List.length_set, Array.toList_setIfInBounds, List.take_set, h6]
  simp [u8s, List.map_set]
theorem RefAt.news {w : World} {B g cap : Nat} {d : List Int} (h : RefAt w B g cap d) : ∀ j u, (u8s d)[j]? = some u → w.cell? ((⟨g, 0, none⟩ : Addr).add j) = some u := by
  intro j u hj
  have hlt : j < d.length := by
    have := (List.getElem?_eq_some_iff.1 hj).1; simpa [u8s] using this
  have hb := h.byte hlt
  rw [show (⟨g, 0, none⟩ : Addr).add j = ⟨g, j, none⟩ from by unfold Addr.add; split <;> simp [*]]
  rw [hb, ← hj]
  simp [u8s, hlt]
set_option maxHeartbeats 400000 in
theorem rthere_any (p : Option Addr) (n c : Nat) (hn : n ≤ 4194304) (a many : Int) (ha : 0 ≤ a) (ha2 : a < 4294967296) (w : World) :
    Calls Try.prog 26 #[.slice p n c, .int .u32 a, .int .i64 many] w fun e w' => e = .returned (.int .i64 (spanE n a 1 many)) ∧ w = w' := by
  by_cases h1 : many ≠ 1 ∧ many ≠ 4
  · have e0 : spanE n a 1 many = 2 := if_pos (.inr h1)
    have E := mhid e0
    have h2 : (many != 1) = true := by simpa using h1.1
    have h3 : (many != 4) = true := by simpa using h1.2
    clear e0 h1
    go_enter Try.func26, Try.ntmps26
    go_wp2
    go_ret
    exact ⟨mret_i E.out.symm, rfl⟩
  · have hm : many = 1 ∨ many = 4 := by omega
    clear h1
    rcases hm with rfl | rfl
    · by_cases h2 : (n : Int) < a + 1
      · have E := mhid (show spanE n a 1 1 = 50 by unfold spanE; rw [if_neg (by omega), if_neg (by omega), if_pos (by omega)])
        go_enter Try.func26, Try.ntmps26
        go_wp2
        go_ret
        exact ⟨mret_i E.out.symm, rfl⟩
      · have E := mhid (show spanE n a 1 1 = 0 by unfold spanE; rw [if_neg (by omega), if_neg (by omega), if_neg (by omega)])
        go_enter Try.func26, Try.ntmps26
        go_wp2
        go_ret
        exact ⟨mret_i E.out.symm, rfl⟩
    · by_cases h4 : a % 4 = 0
      · by_cases h2 : (n : Int) < a + 4
        · have E := mhid (show spanE n a 1 4 = 50 by unfold spanE; rw [if_neg (by omega), if_neg (by omega), if_pos (by omega)])
          go_enter Try.func26, Try.ntmps26
          go_wp2
          go_ret
          exact ⟨mret_i E.out.symm, rfl⟩
        · have E := mhid (show spanE n a 1 4 = 0 by unfold spanE; rw [if_neg (by omega), if_neg (by omega), if_neg (by omega)])
          go_enter Try.func26, Try.ntmps26
          go_wp2
          go_ret
          exact ⟨mret_i E.out.symm, rfl⟩
      · have E := mhid (show spanE n a 1 4 = 51 by unfold spanE; rw [if_neg (by omega), if_pos (by omega)])
        go_enter Try.func26, Try.ntmps26
        go_wp2
        go_ret
        exact ⟨mret_i E.out.symm, rfl⟩
set_option maxHeartbeats 400000 in
theorem rspan_any (p : Option Addr) (n c : Nat) (hn : n ≤ 4194304) (a many : Int) (ha : 0 ≤ a) (ha2 : a < 4294967296) (hm2 : many ≤ 9223372036854775807) (w : World) :
    Calls Try.prog 29 #[.slice p n c, .int .u32 a, .int .i64 many] w fun e w' => e = .returned (.int .i64 (spanE n a many 4)) ∧ w = w' := by
  by_cases h1 : many < 0
  · have E := mhid (show spanE n a many 4 = 2 from if_pos (.inl h1))
    go_enter Try.func29, Try.ntmps29
    go_wp2
    go_ret
    exact ⟨mret_i E.out.symm, rfl⟩
  · by_cases h4 : a % 4 = 0
    · by_cases h2 : (n : Int) < a
      · have hd : decide ((n : Int) < a) = true := by simpa using h2
        have E := mhid (show spanE n a many 4 = 50 by unfold spanE; rw [if_neg (by omega), if_neg (by omega), if_pos (by omega)])
        go_enter Try.func29, Try.ntmps29
        go_wp2
        go_ret
        exact ⟨mret_i E.out.symm, rfl⟩
      · have hd : decide ((n : Int) < a) = false := by simpa using h2
        by_cases h3 : ((n : Int) - a) / 4 < many
        · have E := mhid (show spanE n a many 4 = 50 by unfold spanE; rw [if_neg (by omega), if_neg (by omega), if_pos (by omega)])
          go_enter Try.func29, Try.ntmps29
          go_wp2
          go_ret
          exact ⟨mret_i E.out.symm, rfl⟩
        · have E := mhid (show spanE n a many 4 = 0 by unfold spanE; rw [if_neg (by omega), if_neg (by omega), if_neg (by omega)])
          go_enter Try.func29, Try.ntmps29
          go_wp2
          go_ret
          exact ⟨mret_i E.out.symm, rfl⟩
    · have E := mhid (show spanE n a many 4 = 51 by unfold spanE; rw [if_neg (by omega), if_pos (by omega)])
      go_enter Try.func29, Try.ntmps29
      go_wp2
      go_ret
      exact ⟨mret_i E.out.symm, rfl⟩
theorem rmay_any (n : Int) (w : World) : Calls Try.prog 6 #[.int .i64 n] w fun e w' => e = .returned (.bool (decide (0 ≤ n ∧ n ≤ 4194304 ∧ n % 4 = 0))) ∧ w = w' := by
  by_cases h1 : 0 ≤ n
  · by_cases h2 : n ≤ 4194304
    · by_cases h3 : n % 4 = 0
      · have E : decide (0 ≤ n ∧ n ≤ 4194304 ∧ n % 4 = 0) = true := decide_eq_true ⟨h1, h2, h3⟩
        simp only [E]
        go_enter Try.func6, Try.ntmps6
        go_wp2
        go_ret
        exact ⟨rfl, rfl⟩
      · have h4 : (n % 4 == 0) = false := by simpa using h3
        have E : decide (0 ≤ n ∧ n ≤ 4194304 ∧ n % 4 = 0) = false := decide_eq_false (by omega)
        simp only [E]
        go_enter Try.func6, Try.ntmps6
        go_wp2
        go_ret
        exact ⟨rfl, rfl⟩
    · have E : decide (0 ≤ n ∧ n ≤ 4194304 ∧ n % 4 = 0) = false := decide_eq_false (by omega)
      simp only [E]
      go_enter Try.func6, Try.ntmps6
      go_wp2
      go_ret
      exact ⟨rfl, rfl⟩
  · have E : decide (0 ≤ n ∧ n ≤ 4194304 ∧ n % 4 = 0) = false := decide_eq_false (by omega)
    simp only [E]
    go_enter Try.func6, Try.ntmps6
    go_wp2
    go_ret
    exact ⟨rfl, rfl⟩
set_option maxHeartbeats 1000000 in
theorem rload_any (w : World) (B g cap : Nat) (d : List Int) (h : RefAt w B g cap d) (a many : Int) (ha : 0 ≤ a) (ha2 : a < 4294967296) :
    Calls Try.prog 18 #[.slice (some ⟨g, 0, none⟩) d.length cap, .int .u32 a, .int .i64 many] w fun e w' => e = .returned (.tuple #[.int .u32 (loadV d a many), .int .i64 (spanE d.length a 1 many)]) ∧ w = w' := by
  have ht := rthere_any (some ⟨g, 0, none⟩) d.length cap h.len a many ha ha2 w
  have HT := mhid ht
  have H := mhid h
  clear ht h
  by_cases he : spanE d.length a 1 many = 0
  · obtain ⟨_, h4, _, h5⟩ := spanE_ok he ha
    have E := mhid he
    have hlen := H.out.len
    obtain ⟨A, rfl⟩ := Int.eq_ofNat_of_zero_le ha
    obtain ⟨M, rfl⟩ : ∃ M : Nat, many = (M : Int) := ⟨many.toNat, by omega⟩
    have hM : M = 1 ∨ M = 4 := by omega
    have hv : loadV d A M = beS d A M := by
      unfold loadV; rw [if_pos he]
      rcases hM with rfl | rfl
      · exact (beS_one d A).symm
      · exact (beS_four d A).symm
    have HV := mhid hv
    have hM4 : M ≤ 4 := by omega
    have hr : A + M ≤ d.length := by rcases hM with rfl | rfl <;> omega
    clear he hv hM h4 h5
    go_enter Try.func18, Try.ntmps18
    go_wp2_with fail
    refine HT.out.mono ?_
    rw [E.out]
    rintro e w' ⟨rfl, rfl⟩
    clear HT
    go_wp2_with fail
    go_loop [9, 10] (fun x i => ∃ k : Nat, k ≤ M ∧ i = .int .i64 k ∧ x = .int .u32 (beS d A k)) (fun _ i => M - (intOf i).toNat)
    case atStart => exact ⟨0, Nat.zero_le _, rfl, rfl⟩
    case round =>
      obtain ⟨k, hk, rfl, rfl⟩ := hrel
      by_cases hlt : k < M
      · have hkm : (k : Int) < M := by omega
        have hcell := H.out.byte (i := A + k) (by omega)
        have hb := beS_bd H.out.bytes A k (by omega)
        have hb3 := hb.2.2 (by omega)
        have hx := H.out.bytes.at (A + k)
        have hsu : beS d A (k + 1) = beS d A k * 256 + d.getD (A + k) 0 := rfl
        have SU := mhid hsu
        clear hsu
        generalize d.getD (A + k) 0 = y at hcell hx SU
        generalize beS d A k = z at hb hb3 SU ⊢
        go_wp2_with fail
        exact ⟨⟨k + 1, by omega, by go_num, by rw [SU.out]; congr 1; omega⟩, by simp [intOf] <;> omega⟩
      · obtain rfl : k = M := by omega
        go_wp2_with fail
        go_ret2
        exact ⟨mret_ii HV.out.symm E.out.symm, rfl⟩
  · have E := mhid (show loadV d a many = 0 from if_neg he)
    have he2 : (spanE d.length a 1 many != 0) = true := by simpa using he
    clear he
    go_enter Try.func18, Try.ntmps18
    go_wp2_with fail
    refine HT.out.mono ?_
    generalize hq : spanE d.length a 1 many = q at he2 ⊢
    have HQ := mhid hq
    clear hq
    rintro e w' ⟨rfl, rfl⟩
    clear HT
    go_wp2_with fail
    go_ret2
    exact ⟨mret_ii E.out.symm HQ.out.symm, rfl⟩
end Go.Proofs.Ytilegepenibeoaa
