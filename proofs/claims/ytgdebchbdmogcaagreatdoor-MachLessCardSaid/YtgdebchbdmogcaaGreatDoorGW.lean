/- Several texts in one: MemRef, MemRefPut, MemRefRow, Ref6, Ref6New, MachBegin, MachGreat. -/
import Derived.Test.YtgdebchbdmogcaaGreatDoorGU
import Derived.Test.YtgdebchbdmogcaaGreatDoorGD
import Derived.Test.YtgdebchbdmogcaaGreatDoorGV
import Derived.Test.YtgdebchbdmogcaaGreatDoorGT
import Derived.Test.YtgdebchbdmogcaaGreatDoorGY
import Derived.Deep.OwnRows
/- The walks of the document's answer for the memory (muntinref05). -/
namespace Go.Proofs.YtgdebchbdmogcaaGreatDoor
open Go.RowKit
set_option linter.unusedVariables false
set_option linter.unusedSimpArgs false
/-- A row of bytes of the call's own. -/
structure RefAt (w : World) (B g cap : Nat) (d : List Int) : Prop where
  own : w.ownsRow B 5 1 (.slice (some ⟨g, 0, none⟩) d.length cap) d.length (u8s d)
  bytes : Bytes d
  len : d.length ≤ 4194304
theorem RefAt.row {w : World} {B g cap : Nat} {d : List Int} (h : RefAt w B g cap d) : ∃ cur, B ≤ g ∧ w.heap[g]? = some (.cells cur 5 (0, 0)) ∧ d.length ≤ cap ∧ cap ≤ maxLen ∧ cur.size = cap ∧ cur.toList.take d.length = u8s d := by
  rcases h.own.2 with ⟨h1, _⟩ | ⟨g', cap', cur, hv, hg, hh, hc, hm, hs, ht⟩
  · cases h1
  · cases hv
    exact ⟨cur, hg, hh, hc, hm, by omega, by rw [← ht, Nat.mul_one]⟩
theorem RefAt.mk' {w : World} {B g cap : Nat} {d : List Int} {cur : Array Value} (hb : Bytes d) (hl : d.length ≤ 4194304) (hg : B ≤ g) (hh : w.heap[g]? = some (.cells cur 5 (0, 0))) (hc : d.length ≤ cap) (hm : cap ≤ maxLen) (hs : cur.size = cap) (ht : cur.toList.take d.length = u8s d) : RefAt w B g cap d :=
  ⟨⟨by simp [u8s], .inr ⟨g, cap, cur, rfl, hg, hh, hc, hm, by omega, by rw [Nat.mul_one]; exact ht⟩⟩, hb, hl⟩
theorem RefAt.keep {S : Nat → Prop} {a b : World} {B g cap : Nat} {d : List Int} (h : RefAt a B g cap d) (o : Only S a b) (hg : ¬ S g) : RefAt b B g cap d := by
  obtain ⟨cur, h1, h2, h3, h4, h5, h6⟩ := h.row
  exact RefAt.mk' h.bytes h.len h1 (o.obj h2 hg) h3 h4 h5 h6
theorem RefAt.lt {w : World} {B g cap : Nat} {d : List Int} (h : RefAt w B g cap d) : B ≤ g ∧ g < w.heap.size := by
  obtain ⟨cur, h1, h2, _⟩ := h.row
  exact ⟨h1, lt_of_block h2⟩
theorem RefAt.base {w : World} {B B' g cap : Nat} {d : List Int} (h : RefAt w B g cap d) (hB : B' ≤ g) : RefAt w B' g cap d := by
  obtain ⟨cur, h1, h2, h3, h4, h5, h6⟩ := h.row
  exact RefAt.mk' h.bytes h.len hB h2 h3 h4 h5 h6
theorem RefAt.byte {w : World} {B g cap : Nat} {d : List Int} (h : RefAt w B g cap d) {i : Nat} (hi : i < d.length) : w.cell? ⟨g, i, none⟩ = some (.int .u8 (d.getD i 0)) := by
  obtain ⟨cur, h1, h2, h3, h4, h5, h6⟩ := h.row
  rw [cell_of_obj h2]
  have e : cur[i]? = (cur.toList.take d.length)[i]? := by rw [List.getElem?_take_of_lt hi]; simp
  rw [e, h6]; simp [u8s, hi]
theorem RefAt.free {w : World} {B g cap : Nat} {d : List Int} (h : RefAt w B g cap d) (i : Nat) : w.frozen? ⟨g, i, none⟩ = false := by
  obtain ⟨cur, h1, h2, _⟩ := h.row
  exact free_of_obj h2
theorem RefAt.set {w : World} {B g cap : Nat} {d : List Int} (h : RefAt w B g cap d) {i : Nat} (hi : i < d.length) {x : Int} (hx : 0 ≤ x ∧ x < 256) : RefAt (w.setCell ⟨g, i, none⟩ (.int .u8 x)) B g cap (d.set i x) := by
  obtain ⟨cur, h1, h2, h3, h4, h5, h6⟩ := h.row
  refine RefAt.mk' (h.bytes.set i hx) (by simpa using h.len) h1 (obj_setCell h2 _) (by simpa using h3) h4 (by simpa using h5) ?_
  rw [List.length_set, Array.toList_setIfInBounds, List.take_set, h6]
  simp [u8s, List.map_set]
theorem RefAt.news {w : World} {B g cap : Nat} {d : List Int} (h : RefAt w B g cap d) : ∀ j u, (u8s d)[j]? = some u → w.cell? ((⟨g, 0, none⟩ : Addr).add j) = some u := by
  intro j u hj
  have hlt : j < d.length := by
    have := (List.getElem?_eq_some_iff.1 hj).1; simpa [u8s] using this
  have hb := h.byte hlt
  rw [show (⟨g, 0, none⟩ : Addr).add j = ⟨g, j, none⟩ from by unfold Addr.add; split <;> simp [*]]
  rw [hb, ← hj]
  simp [u8s, hlt]
set_option maxHeartbeats 400000 in
theorem rthere_any (p : Option Addr) (n c : Nat) (hn : n ≤ 4194304) (a many : Int) (ha : 0 ≤ a) (ha2 : a < 4294967296) (w : World) :
    Calls Tryz.prog 91 #[.slice p n c, .int .u32 a, .int .i64 many] w fun e w' => e = .returned (.int .i64 (spanE n a 1 many)) ∧ w = w' := by
  by_cases h1 : many ≠ 1 ∧ many ≠ 4
  · have e0 : spanE n a 1 many = 2 := if_pos (.inr h1)
    have E := mhid e0
    have h2 : (many != 1) = true := by simpa using h1.1
    have h3 : (many != 4) = true := by simpa using h1.2
    clear e0 h1
    go_enter Tryz.func91, Tryz.ntmps91
    go_wp2
    go_ret
    exact ⟨mret_i E.out.symm, rfl⟩
  · have hm : many = 1 ∨ many = 4 := by omega
    clear h1
    rcases hm with rfl | rfl
    · by_cases h2 : (n : Int) < a + 1
      · have E := mhid (show spanE n a 1 1 = 50 by unfold spanE; rw [if_neg (by omega), if_neg (by omega), if_pos (by omega)])
        go_enter Tryz.func91, Tryz.ntmps91
        go_wp2
        go_ret
        exact ⟨mret_i E.out.symm, rfl⟩
      · have E := mhid (show spanE n a 1 1 = 0 by unfold spanE; rw [if_neg (by omega), if_neg (by omega), if_neg (by omega)])
        go_enter Tryz.func91, Tryz.ntmps91
        go_wp2
        go_ret
        exact ⟨mret_i E.out.symm, rfl⟩
    · by_cases h4 : a % 4 = 0
      · by_cases h2 : (n : Int) < a + 4
        · have E := mhid (show spanE n a 1 4 = 50 by unfold spanE; rw [if_neg (by omega), if_neg (by omega), if_pos (by omega)])
          go_enter Tryz.func91, Tryz.ntmps91
          go_wp2
          go_ret
          exact ⟨mret_i E.out.symm, rfl⟩
        · have E := mhid (show spanE n a 1 4 = 0 by unfold spanE; rw [if_neg (by omega), if_neg (by omega), if_neg (by omega)])
          go_enter Tryz.func91, Tryz.ntmps91
          go_wp2
          go_ret
          exact ⟨mret_i E.out.symm, rfl⟩
      · have E := mhid (show spanE n a 1 4 = 51 by unfold spanE; rw [if_neg (by omega), if_pos (by omega)])
        go_enter Tryz.func91, Tryz.ntmps91
        go_wp2
        go_ret
        exact ⟨mret_i E.out.symm, rfl⟩
set_option maxHeartbeats 400000 in
theorem rspan_any (p : Option Addr) (n c : Nat) (hn : n ≤ 4194304) (a many : Int) (ha : 0 ≤ a) (ha2 : a < 4294967296) (hm2 : many ≤ 9223372036854775807) (w : World) :
    Calls Tryz.prog 55 #[.slice p n c, .int .u32 a, .int .i64 many] w fun e w' => e = .returned (.int .i64 (spanE n a many 4)) ∧ w = w' := by
  by_cases h1 : many < 0
  · have E := mhid (show spanE n a many 4 = 2 from if_pos (.inl h1))
    go_enter Tryz.func55, Tryz.ntmps55
    go_wp2
    go_ret
    exact ⟨mret_i E.out.symm, rfl⟩
  · by_cases h4 : a % 4 = 0
    · by_cases h2 : (n : Int) < a
      · have hd : decide ((n : Int) < a) = true := by simpa using h2
        have E := mhid (show spanE n a many 4 = 50 by unfold spanE; rw [if_neg (by omega), if_neg (by omega), if_pos (by omega)])
        go_enter Tryz.func55, Tryz.ntmps55
        go_wp2
        go_ret
        exact ⟨mret_i E.out.symm, rfl⟩
      · have hd : decide ((n : Int) < a) = false := by simpa using h2
        by_cases h3 : ((n : Int) - a) / 4 < many
        · have E := mhid (show spanE n a many 4 = 50 by unfold spanE; rw [if_neg (by omega), if_neg (by omega), if_pos (by omega)])
          go_enter Tryz.func55, Tryz.ntmps55
          go_wp2
          go_ret
          exact ⟨mret_i E.out.symm, rfl⟩
        · have E := mhid (show spanE n a many 4 = 0 by unfold spanE; rw [if_neg (by omega), if_neg (by omega), if_neg (by omega)])
          go_enter Tryz.func55, Tryz.ntmps55
          go_wp2
          go_ret
          exact ⟨mret_i E.out.symm, rfl⟩
    · have E := mhid (show spanE n a many 4 = 51 by unfold spanE; rw [if_neg (by omega), if_pos (by omega)])
      go_enter Tryz.func55, Tryz.ntmps55
      go_wp2
      go_ret
      exact ⟨mret_i E.out.symm, rfl⟩
theorem mrmay_any (n : Int) (w : World) : Calls Tryz.prog 53 #[.int .i64 n] w fun e w' => e = .returned (.bool (decide (0 ≤ n ∧ n ≤ 4194304 ∧ n % 4 = 0))) ∧ w = w' := by
  by_cases h1 : 0 ≤ n
  · by_cases h2 : n ≤ 4194304
    · by_cases h3 : n % 4 = 0
      · have E : decide (0 ≤ n ∧ n ≤ 4194304 ∧ n % 4 = 0) = true := decide_eq_true ⟨h1, h2, h3⟩
        simp only [E]
        go_enter Tryz.func53, Tryz.ntmps53
        go_wp2
        go_ret
        exact ⟨rfl, rfl⟩
      · have h4 : (n % 4 == 0) = false := by simpa using h3
        have E : decide (0 ≤ n ∧ n ≤ 4194304 ∧ n % 4 = 0) = false := decide_eq_false (by omega)
        simp only [E]
        go_enter Tryz.func53, Tryz.ntmps53
        go_wp2
        go_ret
        exact ⟨rfl, rfl⟩
    · have E : decide (0 ≤ n ∧ n ≤ 4194304 ∧ n % 4 = 0) = false := decide_eq_false (by omega)
      simp only [E]
      go_enter Tryz.func53, Tryz.ntmps53
      go_wp2
      go_ret
      exact ⟨rfl, rfl⟩
  · have E : decide (0 ≤ n ∧ n ≤ 4194304 ∧ n % 4 = 0) = false := decide_eq_false (by omega)
    simp only [E]
    go_enter Tryz.func53, Tryz.ntmps53
    go_wp2
    go_ret
    exact ⟨rfl, rfl⟩
end Go.Proofs.YtgdebchbdmogcaaGreatDoor
/- The walks of muntinref05.Store, Put, Words and of muntinlaw05.same. -/
namespace Go.Proofs.YtgdebchbdmogcaaGreatDoor
open Go.RowKit
set_option linter.unusedVariables false
set_option linter.unusedSimpArgs false
/-- What the document's Store gives: the memory then, in memory of the call's own, or the one it was given. -/
def RGives (B g n : Nat) (err : Int) (d2 : List Int) (w : World) (e : Ending) (w' : World) : Prop :=
  ∃ g' cap', e = .returned (.tuple #[.slice (some ⟨g', 0, none⟩) n cap', .int .i64 err]) ∧ RefAt w' B g' cap' d2 ∧ Below w.heap.size w w' ∧ (g' = g ∨ w.heap.size ≤ g')
theorem mret_si {v : Value} {a b : Int} (h : a = b) : Ending.returned (.tuple #[v, .int .i64 a]) = .returned (.tuple #[v, .int .i64 b]) := by rw [h]
/-- The bytes of x from the last to the first, j of them. -/
def setR (d : List Int) (p : Nat) (x : Int) : Nat → List Int
  | 0 => d
  | j + 1 => (setR d p x j).set (p - j) (x / 256 ^ j % 256)
theorem setR_len (d : List Int) (p : Nat) (x : Int) (j : Nat) : (setR d p x j).length = d.length := by
  induction j with
  | zero => rfl
  | succ j ih => simp [setR, ih]
theorem setR_one (d : List Int) (a : Nat) (x : Int) : setR d a x 1 = storeS d a 1 x := by simp [setR, storeS]
theorem setR_four (d : List Int) (a : Nat) (x : Int) : setR d (a + 3) x 4 = storeS d a 4 x := by
  simp [setR, storeS]

theorem div_bd {x : Int} (hx : 0 ≤ x) (hx2 : x < 4294967296) (j : Nat) : 0 ≤ x / 256 ^ j ∧ x / 256 ^ j < 4294967296 :=
  ⟨Int.ediv_nonneg hx (Int.le_of_lt (Int.pow_pos (by decide))), Int.lt_of_le_of_lt (Int.ediv_le_self _ hx) hx2⟩
theorem div_succ (x : Int) (j : Nat) : x / 256 ^ j / 256 = x / 256 ^ (j + 1) := by
  rw [Int.pow_succ, Int.ediv_ediv_of_nonneg (Int.le_of_lt (Int.pow_pos (by decide)))]
set_option maxHeartbeats 1000000 in
set_option maxRecDepth 4000 in
theorem rstore_any (w : World) (B g cap : Nat) (d : List Int) (h : RefAt w B g cap d) (a many : Int) (ha : 0 ≤ a) (ha2 : a < 4294967296) (x : Int) (hx : 0 ≤ x) (hx2 : x < 4294967296) :
    Calls Tryz.prog 56 #[.slice (some ⟨g, 0, none⟩) d.length cap, .int .u32 a, .int .i64 many, .int .u32 x] w (RGives B g d.length (spanE d.length a 1 many) (storeV d a many x) w) := by
  have ht := rthere_any (some ⟨g, 0, none⟩) d.length cap h.len a many ha ha2 w
  have HT := mhid ht
  have H := mhid h
  clear ht h
  by_cases he : spanE d.length a 1 many = 0
  · obtain ⟨_, h4, _, h5⟩ := spanE_ok he ha
    have E := mhid he
    have hlen := H.out.len
    obtain ⟨i0, hi, hz0, hz1, hz2⟩ := info_parts info8
    have hlt := H.out.lt
    have h1 : RefAt (w.alloc (.cells #[] 5)) B g cap d := H.out.keep ((Only.refl (fun _ => False) w).alloc _) id
    have hown : (w.alloc (.cells #[] 5)).ownsRow w.heap.size 5 1 (.slice (some ⟨w.heap.size, 0, none⟩) 0 0) 0 [] := World.ownsRow_lit w #[] 0 (Nat.le_refl _) (by unfold maxLen; omega) rfl
    have hnews := h1.news
    have q1 : (u8s d).length = d.length * 1 := by simp [u8s]
    have q2 : 0 + d.length ≤ maxLen := by unfold maxLen; omega
    have q3 : (0 + d.length) * 1 ≤ 140737488355328 := by omega
    have q4 : w.heap.size ≤ (w.alloc (.cells #[] 5)).heap.size := by simp
    have Q1 := mhid q1
    obtain ⟨A, rfl⟩ := Int.eq_ofNat_of_zero_le ha
    obtain ⟨M, rfl⟩ : ∃ M : Nat, many = (M : Int) := ⟨many.toNat, by omega⟩
    have hM : M = 1 ∨ M = 4 := by omega
    have hv : setR d (A + M - 1) x M = storeV d A M x := by
      unfold storeV; rw [if_pos he]
      rcases hM with rfl | rfl
      · exact setR_one d A x
      · exact setR_four d A x
    have HV := mhid hv
    have hM4 : M ≤ 4 := by omega
    have hM1 : 1 ≤ M := by omega
    have hr : A + M ≤ d.length := by rcases hM with rfl | rfl <;> omega
    clear q1 he h1 hv hM h4 h5
    go_enter Tryz.func56, Tryz.ntmps56
    go_wp2_with fail
    refine HT.out.mono ?_
    rw [E.out]
    rintro e w' ⟨rfl, rfl⟩
    clear HT
    go_wp2_with (at_builtin; refine wpList_append_own _ rfl _ _ 29 rfl w.heap.size 5 i0 (.int .u8 0) 1 1 Tryz.underlying29 hi hz0 hz1 hz2 rfl (by decide) _ 0 [] rfl hown ⟨g, 0, none⟩ d.length cap (u8s d) rfl Q1.out hnews u8s_one q2 q3 q4 ?_; intro v' w1 hown1 hgrow1 hnil; have hown2 := own_tail (k := 0) hown1; obtain ⟨g2, cap2, rfl, hg2⟩ := own_some hown2 (fun e => by cases (hnil.1 e).1))
    have hb1 : Below w.heap.size w w1 := ((Below.refl _ w).alloc (Nat.le_refl _) _).grown hgrow1 q4 (fun k e => by cases e; exact Nat.le_refl _)
    have hR : RefAt w1 w.heap.size g2 cap2 d := ⟨hown2, H.out.bytes, hlen⟩
    have G1 := mhid (And.intro hb1 hR)
    clear hb1 hR hown2 hown1 hnil hgrow1 hown hnews q2 q3 q4
    go_loopw [3, 12] (fun y i wr => ∃ (j : Nat) (t : Int), j ≤ M ∧ t = (M : Int) - 1 - j ∧ i = .int .i64 t ∧ y = .int .u32 (x / 256 ^ j) ∧ RefAt wr w.heap.size g2 cap2 (setR d (A + M - 1) x j) ∧ Below w.heap.size w wr) (fun _ i _ => (intOf i + 1).toNat)
    case atStart => exact ⟨0, (M : Int) - 1, Nat.zero_le _, by omega, by go_num, by simp, G1.out.2, G1.out.1⟩
    case round =>
      obtain ⟨j, t, hj, ht, rfl, rfl, href, hbl⟩ := hrel
      by_cases hlt : j < M
      · obtain ⟨T, rfl⟩ : ∃ T : Nat, t = T := ⟨t.toNat, by omega⟩
        have hT : A + M - 1 - j = A + T := by omega
        have hdv := div_bd hx hx2 j
        have hds := div_succ x j
        have hln := setR_len d (A + M - 1) x j
        have hset : setR d (A + M - 1) x (j + 1) = (setR d (A + M - 1) x j).set (A + T) (x / 256 ^ j % 256) := by rw [← hT]; rfl
        have SE := mhid hset
        have DS := mhid hds
        clear hset hds
        generalize x / 256 ^ j = y at hdv SE DS
        have hstep := href.set (i := A + T) (by omega) (x := y % 256) (by omega)
        have hcell := href.byte (i := A + T) (by omega)
        have hfree := href.free (A + T)
        have hbl2 := hbl.setCell (p := ⟨g2, A + T, none⟩) hg2 (.int .u8 (y % 256))
        rw [← SE.out] at hstep
        have G2 := mhid (And.intro hstep hbl2)
        clear hstep hbl2 href hbl SE
        generalize (setR d (A + M - 1) x j).getD (A + T) 0 = old at hcell
        have JT := mhid (And.intro hj (And.intro ht (And.intro hT hln)))
        clear hj ht hT hln hlt
        have hTl : (A : Int) + T < d.length := by have := JT.out; omega
        go_wp2_with fail
        have J := JT.out
        exact ⟨⟨j + 1, (T : Int) - 1, by omega, by omega, rfl, by rw [DS.out], G2.out.1, G2.out.2⟩, by simp [intOf] <;> omega⟩
      · obtain rfl : j = M := by omega
        obtain rfl : t = -1 := by omega
        clear ht hj hlt hr hM1 hM4
        go_wp2_with fail
        go_ret2
        exact ⟨g2, cap2, mret_si E.out.symm, by rw [← HV.out]; exact href.base (by omega), hbl, .inr hg2⟩
  · have E := mhid (show storeV d a many x = d from if_neg he)
    have he2 : (spanE d.length a 1 many != 0) = true := by simpa using he
    clear he
    go_enter Tryz.func56, Tryz.ntmps56
    go_wp2_with fail
    refine HT.out.mono ?_
    generalize hq : spanE d.length a 1 many = q at he2 ⊢
    have HQ := mhid hq
    clear hq
    rintro e w' ⟨rfl, rfl⟩
    clear HT
    go_wp2_with fail
    go_ret2
    exact ⟨g, cap, mret_si HQ.out.symm, by rw [E.out]; exact H.out, Below.refl _ _, .inl rfl⟩
end Go.Proofs.YtgdebchbdmogcaaGreatDoor
/- The walks of muntinref05.Put, Words and of muntinlaw05.same. -/
namespace Go.Proofs.YtgdebchbdmogcaaGreatDoor
open Go.RowKit
set_option linter.unusedVariables false
set_option linter.unusedSimpArgs false
theorem keepm {S : Nat} {a b : World} {p : Addr} {v : Value} (hb : Below S a b) (hp : p.block < S) (h : a.cell? p = some v) : b.cell? p = some v := (hb.cell hp).trans h
set_option maxHeartbeats 1000000 in
theorem mrput_any (w : World) (B g cap : Nat) (d : List Int) (h : RefAt w B g cap d) (a : Int) (ha : 0 ≤ a) (ha2 : a < 4294967296) (v : Value) (l : List Int) (hl : l.length ≤ maxLen) (hv : U32s (fun _ => False) w v l) :
    Calls Tryz.prog 28 #[.slice (some ⟨g, 0, none⟩) d.length cap, .int .u32 a, v] w (RGives B g d.length (spanE d.length a l.length 4) (putV d a l) w) := by
  unfold maxLen at hl
  have hs := rspan_any (some ⟨g, 0, none⟩) d.length cap h.len a l.length ha ha2 (by omega) w
  have HS := mhid hs
  have H := mhid h
  have hB := h.lt
  clear hs h
  obtain ⟨hw, p, c, rfl, hv⟩ := hv
  have HV := mhid hv
  clear hv
  by_cases he : spanE d.length a l.length 4 = 0
  · obtain ⟨_, _, h4, h5⟩ := spanE_ok he ha
    have HE := mhid he
    have hlen0 := H.out.len
    have h4' := h4
    clear he
    obtain ⟨A, rfl⟩ := Int.eq_ofNat_of_zero_le ha
    go_enter Tryz.func28, Tryz.ntmps28
    go_wp2_with fail
    refine HS.out.mono ?_
    rw [HE.out]
    rintro e w' ⟨rfl, rfl⟩
    clear HS
    go_wp2_with fail
    go_loopw [0, 9] (fun mm i wr => ∃ k g' cap', k ≤ l.length ∧ i = .int .i64 (k : Nat) ∧ mm = .slice (some ⟨g', 0, none⟩) d.length cap' ∧ RefAt wr B g' cap' (putS d A (l.take k)) ∧ Below w.heap.size w wr ∧ (g' = g ∨ w.heap.size ≤ g')) (fun _ i _ => l.length - (intOf i).toNat)
    case atStart => exact ⟨0, g, cap, Nat.zero_le _, rfl, rfl, H.out, Below.refl _ _, .inl rfl⟩
    case round =>
      obtain ⟨k, g', cap', hk, rfl, rfl, href, hbl, hgg⟩ := hrel
      by_cases hlt : k < l.length
      · obtain ⟨b, o, rfl, _, hb2, hc⟩ := HV.out (by omega)
        have hcell : wr.cell? ⟨b, o + k, none⟩ = some (.int .u32 (l.getD k 0)) := keepm hbl hb2 (hc k hlt)
        have hx := hw.at k
        have hlen2 := putS_len (l.take k) d A
        have e4 : spanE d.length ((A : Int) + 4 * (k : Int)) 1 4 = 0 := by unfold spanE; rw [if_neg (by omega), if_neg (by omega), if_neg (by omega)]
        have hst := rstore_any wr B g' cap' _ href ((A : Int) + 4 * (k : Int)) 4 (by omega) (by omega) (l.getD k 0) hx.1 hx.2
        rw [hlen2] at hst
        rw [e4] at hst
        rw [show storeV (putS d A (l.take k)) ((A : Int) + 4 * (k : Int)) 4 (l.getD k 0) = putS d A (l.take (k + 1)) from by rw [putS_take l d A k hlt]; unfold storeV; rw [hlen2, if_pos e4]; congr 1] at hst
        have HT := mhid hst
        have HB := mhid hbl
        clear hst hbl e4 href hlen2 hc HV
        generalize l.getD k 0 = x at hcell hx HT
        have hk4 : (k : Int) < l.length := by omega
        go_wp2_with fail
        refine HT.out.mono ?_
        rintro e w' ⟨g2, cap2, rfl, href2, hb2', hgg2⟩
        have hb3 : Below w.heap.size w w' := HB.out.trans (hb2'.mono HB.out.size)
        have hg3 : g2 = g ∨ w.heap.size ≤ g2 := by
          have := HB.out.size
          rcases hgg2 with rfl | h3
          · exact hgg
          · exact .inr (by omega)
        have G := mhid (And.intro href2 (And.intro hb3 hg3))
        clear href2 hb2' hgg2 hb3 hg3 HT HB
        go_wp2_with fail
        go_roundw
        case rel => exact ⟨k + 1, g2, cap2, by omega, by go_num, rfl, G.out.1, G.out.2.1, G.out.2.2⟩
        case measure => simp [intOf] <;> omega
      · obtain rfl : k = l.length := by omega
        go_wp2_with fail
        go_ret2
        refine ⟨g', cap', mret_si HE.out.symm, ?_, hbl, hgg⟩
        rw [show putV d (A : Int) l = putS d A l from if_pos HE.out]
        rw [List.take_length] at href
        exact href
  · have E := mhid (show putV d a l = d from if_neg he)
    have he2 : (spanE d.length a l.length 4 != 0) = true := by simpa using he
    clear he
    go_enter Tryz.func28, Tryz.ntmps28
    go_wp2_with fail
    refine HS.out.mono ?_
    generalize hq : spanE d.length a l.length 4 = q at he2 ⊢
    have HQ := mhid hq
    clear hq
    rintro e w' ⟨rfl, rfl⟩
    clear HS
    go_wp2_with fail
    go_ret2
    exact ⟨g, cap, mret_si HQ.out.symm, by rw [E.out]; exact H.out, Below.refl _ _, .inl rfl⟩
end Go.Proofs.YtgdebchbdmogcaaGreatDoor
/- The document's machine (muntinref06) as a value. No function of the program is walked here. -/
namespace Go.Proofs.YtgdebchbdmogcaaGreatDoor
open Go.RowKit
set_option linter.unusedVariables false
set_option linter.unusedSimpArgs false
/-- A struct that lies in a cell, and a slot, as results. -/
theorem results_row_slot {P : Program} {fn : Func} {p q : Tmp} {ty : TypeId} (h : fn.results = #[.cell p ty, .tmp q]) (tmps : Array Value) (w : World) (g : Nat) (t : TypeId) (cs : Array Value) (fr : Nat × Nat) (d : TypeDesc) (v : Value)
    (hp : tmps.getD p undef = .pointer (some ⟨g, 0, none⟩)) (hq : tmps.getD q undef = v) (hg : w.heap[g]? = some (.cells cs t fr))
    (hu : P.underlying ty = some d) (hd : (match d with | .struct _ | .array _ _ => true | _ => false) = true) (hi : (P.info? ty).map (·.size) = some cs.size) :
    (results fn tmps).run P w = .ok (.tuple #[.agg cs, v]) w := by
  have hp' : tmps[p]?.getD undef = .pointer (some ⟨g, 0, none⟩) := by simpa using hp
  have hq' : tmps[q]?.getD undef = v := by simpa using hq
  simp [results, h, hp', hq', asAddr, run_loadVar_row w g t ty cs fr d hg hu hd hi]
theorem results_slot_row {P : Program} {fn : Func} {p q : Tmp} {ty : TypeId} (h : fn.results = #[.tmp q, .cell p ty]) (tmps : Array Value) (w : World) (g : Nat) (t : TypeId) (cs : Array Value) (fr : Nat × Nat) (d : TypeDesc) (v : Value)
    (hp : tmps.getD p undef = .pointer (some ⟨g, 0, none⟩)) (hq : tmps.getD q undef = v) (hg : w.heap[g]? = some (.cells cs t fr))
    (hu : P.underlying ty = some d) (hd : (match d with | .struct _ | .array _ _ => true | _ => false) = true) (hi : (P.info? ty).map (·.size) = some cs.size) :
    (results fn tmps).run P w = .ok (.tuple #[v, .agg cs]) w := by
  have hp' : tmps[p]?.getD undef = .pointer (some ⟨g, 0, none⟩) := by simpa using hp
  have hq' : tmps[q]?.getD undef = v := by simpa using hq
  simp [results, h, hp', hq', asAddr, run_loadVar_row w g t ty cs fr d hg hu hd hi]
/-- The rows of a machine that is a value. -/
structure QP where
  l : Value
  m : Value
  t : Value
  s : Value
  c : Value
  o : Value
abbrev qC (P : QP) (m : Mx) : List Value := [.int .i64 m.f.nw, .int .i64 m.f.nw, P.l, P.m, .int .u32 m.pc, .int .u8 m.p.cwp, .int .u8 m.p.pil, .int .u8 m.p.bank, .int .u8 m.p.flags, .int .u32 m.wim, P.t, P.s, P.c, P.o, .int .u8 m.kind, .int .u32 m.v]
/-- The blocks of its rows. -/
def QP.has (P : QP) (k : Nat) : Prop := P.l.ownBlock = some k ∨ P.m.ownBlock = some k ∨ P.t.ownBlock = some k ∨ P.s.ownBlock = some k ∨ P.c.ownBlock = some k ∨ P.o.ownBlock = some k
/-- Rows are old ones, or made since. -/
def QNew (w w' : World) (P P' : QP) : Prop := ∀ k, P'.has k → P.has k ∨ (w.heap.size ≤ k ∧ k < w'.heap.size)
/-- No row is the machine's. -/
def QOff (w : World) (G : MG) (P : QP) : Prop := ∀ k, P.has k → G.R k = .none ∧ k < w.heap.size
structure QVal (w : World) (N : Nat) (P : QP) (m : Mx) : Prop where
  ok : m.ok
  log : ∃ L, LogIn w P.l L ∧ LogOf L m.f ∧ L.length ≤ N
  mem : ∃ g cap, P.m = .slice (some ⟨g, 0, none⟩) m.mem.length cap ∧ RefAt w 0 g cap m.mem
  t : MChAt w P.t m.tpc
  s : MChAt w P.s m.tpsr
  c : MChAt w P.c m.ch
  o : MChAt w P.o m.out
theorem MChAt.keepb {w w' : World} {v : Value} {l : List Int} (h : MChAt w v l) (hb : Below w.heap.size w w') : MChAt w' v l := ⟨h.1.keepb hb, h.2⟩
theorem QVal.keep {w w' : World} {N : Nat} {P : QP} {m : Mx} (h : QVal w N P m) (hb : Below w.heap.size w w') : QVal w' N P m := by
  obtain ⟨h1, ⟨L, h2, h3, h4⟩, ⟨g, cap, h5, h6⟩, h7, h8, h9, h10⟩ := h
  exact ⟨h1, ⟨L, h2.keep hb, h3, h4⟩, ⟨g, cap, h5, h6.keep (S := fun _ => False) (Only.of_below hb) id⟩, h7.keepb hb, h8.keepb hb, h9.keepb hb, h10.keepb hb⟩
theorem QVal.mono {w : World} {N N' : Nat} {P : QP} {m : Mx} (h : QVal w N P m) (hn : N ≤ N') : QVal w N' P m := by
  obtain ⟨h1, ⟨L, h2, h3, h4⟩, h5, h6, h7, h8, h9⟩ := h
  exact ⟨h1, ⟨L, h2, h3, by omega⟩, h5, h6, h7, h8, h9⟩
theorem QNew.refl (w w' : World) (P : QP) : QNew w w' P P := fun k h => .inl h
theorem QNew.trans {a b c : World} {P Q R : QP} (h1 : QNew a b P Q) (h2 : QNew b c Q R) (hs : a.heap.size ≤ b.heap.size) (hs2 : b.heap.size ≤ c.heap.size) : QNew a c P R := fun k h => by
  rcases h2 k h with h3 | ⟨h3, h4⟩
  · rcases h1 k h3 with h5 | ⟨h5, h6⟩
    · exact .inl h5
    · exact .inr ⟨h5, by omega⟩
  · exact .inr ⟨by omega, h4⟩
theorem QOff.keep {w w' : World} {G G' : MG} {P : QP} (h : QOff w G P) (hk : MKeeps w w' G G') : QOff w' G' P := fun k hp => ⟨hk.2 k (h k hp).2 (h k hp).1, Nat.lt_of_lt_of_le (h k hp).2 hk.1.size⟩
theorem QOff.keepb {w w' : World} {G : MG} {P : QP} (h : QOff w G P) (hs : w.heap.size ≤ w'.heap.size) : QOff w' G P := fun k hp => ⟨(h k hp).1, Nat.lt_of_lt_of_le (h k hp).2 hs⟩
theorem QOff.new {w0 w w' : World} {G : MG} {M : Nat} {m : Mx} {P P' : QP} (h : QOff w G P) (hm : MIs w0 w G M m) (hs : w.heap.size ≤ w'.heap.size) (hn : QNew w w' P P') : QOff w' G P' := fun k hp => by
  rcases hn k hp with h1 | ⟨h1, h2⟩
  · exact ⟨(h k h1).1, Nat.lt_of_lt_of_le (h k h1).2 hs⟩
  · refine ⟨?_, h2⟩
    by_cases e : G.R k = .none
    · exact e
    · have := hm.at'.lt k e; omega
/-- Words that are read stay where other blocks change. -/
theorem Reads32.keepK {a b : World} {v : Value} {l : List Int} (h : Reads32 a v l) (hk : ∀ k, v.ownBlock = some k → k < a.heap.size → b.heap[k]? = a.heap[k]?) : Reads32 b v l := by
  obtain ⟨h1, p, c, rfl, h2⟩ := h
  refine ⟨h1, p, c, rfl, fun h0 => ?_⟩
  obtain ⟨g, q, rfl, h3⟩ := h2 h0
  refine ⟨g, q, rfl, fun k hk' => ?_⟩
  have hl := World.block_lt_of_cell? _ _ (h3 k hk')
  exact (World.cell?_of_block (hk g rfl hl)).trans (h3 k hk')
theorem MChAt.keepK {a b : World} {v : Value} {l : List Int} (h : MChAt a v l) (hk : ∀ k, v.ownBlock = some k → k < a.heap.size → b.heap[k]? = a.heap[k]?) : MChAt b v l := ⟨h.1.keepK hk, h.2⟩
theorem QVal.other {w w' : World} {N : Nat} {P : QP} {m : Mx} {G G' : MG} (h : QVal w N P m) (ho : QOff w G P) (hk : MKeeps w w' G G') : QVal w' N P m := by
  have hb : ∀ k, P.has k → k < w.heap.size → w'.heap[k]? = w.heap[k]? := fun k hp hl => hk.1.block k hl (fun hC => hC (ho k hp).1)
  obtain ⟨h1, ⟨L, h2, h3, h4⟩, ⟨g, cap, h5, h6⟩, h7, h8, h9, h10⟩ := h
  refine ⟨h1, ⟨L, ?_, h3, h4⟩, ⟨g, cap, h5, h6.keep hk.1 (fun hC => hC (ho g (.inr (.inl (by rw [h5]; rfl)))).1)⟩, h7.keepK (fun k e => hb k (.inr (.inr (.inl e)))), h8.keepK (fun k e => hb k (.inr (.inr (.inr (.inl e))))), h9.keepK (fun k e => hb k (.inr (.inr (.inr (.inr (.inl e)))))), h10.keepK (fun k e => hb k (.inr (.inr (.inr (.inr (.inr e))))))⟩
  rcases h2 with h2 | ⟨g2, cap2, q1, q2, q3⟩
  · exact .inl h2
  · exact .inr ⟨g2, cap2, q1, Nat.lt_of_lt_of_le q2 hk.1.size, fun j u hu => (World.cell?_of_block (hb g2 (.inl (by rw [q1]; rfl)) q2)).trans (q3 j u hu)⟩
theorem MChAt.shape {w : World} {v : Value} {l : List Int} (h : MChAt w v l) : ∃ p c, v = .slice p l.length c := by
  obtain ⟨h1, p, c, h2, _⟩ := h.1; exact ⟨p, c, h2⟩
theorem QVal.one {w : World} {N : Nat} {P : QP} {m : Mx} (h : QVal w N P m) : (qC P m).toArray.all (·.oneCell') = true := by
  obtain ⟨h1, ⟨L, h2, h3, h4⟩, ⟨g, cap, h5, h6⟩, h7, h8, h9, h10⟩ := h
  obtain ⟨p1, c1, e1⟩ := h2.shape
  obtain ⟨p2, c2, e2⟩ := h7.shape
  obtain ⟨p3, c3, e3⟩ := h8.shape
  obtain ⟨p4, c4, e4⟩ := h9.shape
  obtain ⟨p5, c5, e5⟩ := h10.shape
  unfold qC
  rw [e1, h5, e2, e3, e4, e5]
  simp [Value.oneCell']
theorem q_size : (Tryz.prog.info? 39).map (·.size) = some 16 := by kernel_rfl
def qZ : List Value := [.int .i64 0, .int .i64 0, .slice none 0 0, .slice none 0 0, .int .u32 0, .int .u8 0, .int .u8 0, .int .u8 0, .int .u8 0, .int .u32 0, .slice none 0 0, .slice none 0 0, .slice none 0 0, .slice none 0 0, .int .u8 0, .int .u32 0]
theorem made_list (z : Value) (n : Nat) : (madeCells #[z] n).toList = List.replicate n z := by
  refine List.ext_getElem (by simp [madeCells]) fun i h1 h2 => ?_
  simp [madeCells, Nat.mod_one]
theorem words_none (w : World) : MChAt w (.slice none 0 0) [] := ⟨⟨by simp, none, 0, rfl, fun h => by simp at h⟩, fun p n c e => by cases e; exact ⟨Nat.le_refl _, fun _ => rfl⟩⟩
theorem words_zero {w : World} {g n : Nat} (h : ARow w g 22 (List.replicate n (.int .u32 0))) (hn : n ≤ maxLen) : MChAt w (.slice (some ⟨g, 0, none⟩) n n) (List.replicate n 0) := by
  refine ⟨⟨by simpa using hn, some ⟨g, 0, none⟩, n, by simp, fun h0 => ⟨g, 0, rfl, fun k hk => ?_⟩⟩, fun p n' c e => by cases e; exact ⟨Nat.le_refl _, fun e => by cases e⟩⟩
  rw [Nat.zero_add]
  have hk' : k < n := by simpa using hk
  refine h.cell ?_
  simp [hk']
theorem bytes_zero {w : World} {g n : Nat} (h : ARow w g 5 (List.replicate n (.int .u8 0))) (hn : n ≤ 4194304) : RefAt w 0 g n (List.replicate n 0) :=
  RefAt.mk' (cur := (List.replicate n (Value.int .u8 0)).toArray) (Bytes.zeros _) (by simpa using hn) (Nat.zero_le _) h (by simp) (by unfold maxLen; omega) (by simp) (by simp [u8s])
/-- All cells of a box, stored. -/
def fillW (w : World) (X : Nat) : List Value → Nat → World
  | [], _ => w
  | v :: vs, k => fillW (w.setCell ⟨X, k, none⟩ v) X vs (k + 1)
theorem fillW_only (X : Nat) : ∀ (vs : List Value) (k : Nat) (w0 w : World), Only (fun q => q = X) w0 w → Only (fun q => q = X) w0 (fillW w X vs k)
  | [], _, _, _, h => h
  | v :: vs, k, w0, w, h => fillW_only X vs (k + 1) w0 _ (h.setCell (p := ⟨X, k, none⟩) rfl v)
theorem fillW_row {X : Nat} {T : TypeId} : ∀ (vs : List Value) (k : Nat) (w : World) (zs : List Value), ARow w X T zs → k + vs.length ≤ zs.length → ARow (fillW w X vs k) X T (zs.take k ++ vs ++ zs.drop (k + vs.length))
  | [], k, w, zs, h, hl => by
    show ARow w X T _
    simpa using h
  | v :: vs, k, w, zs, h, hl => by
    simp only [List.length_cons] at hl
    have h1 := fillW_row vs (k + 1) _ _ (h.set k v) (by rw [List.length_set]; omega)
    have e : (zs.set k v).take (k + 1) ++ vs ++ (zs.set k v).drop (k + 1 + vs.length) = zs.take k ++ (v :: vs) ++ zs.drop (k + (v :: vs).length) := by
      rw [List.take_set, List.drop_set, if_pos (by omega)]
      rw [List.take_add_one, List.getElem?_eq_getElem (by omega : k < zs.length)]
      rw [show k + (v :: vs).length = k + 1 + vs.length by simp; omega]
      have h2 : (zs.take k ++ (some zs[k]).toList).set k v = zs.take k ++ [v] := by
        rw [List.set_append_right _ _ (by rw [List.length_take]; omega)]
        simp [List.length_take, Nat.min_eq_left (by omega : k ≤ zs.length)]
      rw [h2]; simp
    rw [e] at h1
    exact h1
/-- The whole box, anew. -/
theorem ARow.fill {w : World} {X : Nat} {T : TypeId} {zs : List Value} (h : ARow w X T zs) (vs : List Value) (hl : zs.length = vs.length) : ARow (fillW w X vs 0) X T vs := by
  have h1 := fillW_row vs 0 w zs h (by omega)
  rw [List.drop_eq_nil_of_le (by omega)] at h1
  simpa using h1
end Go.Proofs.YtgdebchbdmogcaaGreatDoor
/- The walks of muntinref03.New and muntinref06.New. -/
namespace Go.Proofs.YtgdebchbdmogcaaGreatDoor
open Go.RowKit
set_option linter.unusedVariables false
set_option linter.unusedSimpArgs false
theorem rf_new_ok (n : Nat) (h2 : 2 ≤ n) (h32 : n ≤ 32) (w : World) : Calls Tryz.prog 52 #[.int .i64 n] w fun e w' => e = .returned (.tuple #[.agg #[.int .i64 n, .slice none 0 0], .int .i64 0]) ∧ Below w.heap.size w w' := by
  have c1 : ¬ ((n : Int) < 2) := by omega
  have c2 : ¬ ((n : Int) > 32) := by omega
  have c3 : ¬ (32 < (n : Int)) := by omega
  go_enter Tryz.func52, Tryz.ntmps52
  go_wp2_with fail
  have hR := ARow.fresh w 35 #[.int .i64 n, .slice none 0 0]
  have s0 := hR.cell (k := 0) rfl
  have s1 := hR.cell (k := 1) rfl
  have hb : Below w.heap.size w (w.alloc (.cells #[.int .i64 n, .slice none 0 0] 35)) := (Below.refl _ _).alloc (Nat.le_refl _) _
  clear hR
  generalize w.alloc (.cells #[.int .i64 n, .slice none 0 0] 35) = W at *
  refine bodyPost_ret (by simp [results, Tryz.results52, go_sem, s0, s1]; try rfl) rfl ?_
  exact ⟨rfl, hb⟩
theorem rf_new_err (n : Int) (h : ¬ winP n) (w : World) : Calls Tryz.prog 52 #[.int .i64 n] w fun e w' => e = .returned (.tuple #[.agg #[.int .i64 0, .slice none 0 0], .int .i64 2]) ∧ Below w.heap.size w w' := by
  unfold winP at h
  by_cases c1 : n < 2
  · clear h
    go_enter Tryz.func52, Tryz.ntmps52
    go_wp2_with fail
    have hR := ARow.fresh w 35 #[.int .i64 0, .slice none 0 0]
    have s0 := hR.cell (k := 0) rfl
    have s1 := hR.cell (k := 1) rfl
    have hb : Below w.heap.size w (w.alloc (.cells #[.int .i64 0, .slice none 0 0] 35)) := (Below.refl _ _).alloc (Nat.le_refl _) _
    clear hR
    generalize w.alloc (.cells #[.int .i64 0, .slice none 0 0] 35) = W at *
    refine bodyPost_ret (by simp [results, Tryz.results52, go_sem, s0, s1]; try rfl) rfl ?_
    exact ⟨rfl, hb⟩
  · have c2 : n > 32 := by omega
    clear h
    go_enter Tryz.func52, Tryz.ntmps52
    go_wp2_with fail
    have hR := ARow.fresh w 35 #[.int .i64 0, .slice none 0 0]
    have s0 := hR.cell (k := 0) rfl
    have s1 := hR.cell (k := 1) rfl
    have hb : Below w.heap.size w (w.alloc (.cells #[.int .i64 0, .slice none 0 0] 35)) := (Below.refl _ _).alloc (Nat.le_refl _) _
    clear hR
    generalize w.alloc (.cells #[.int .i64 0, .slice none 0 0] 35) = W at *
    refine bodyPost_ret (by simp [results, Tryz.results52, go_sem, s0, s1]; try rfl) rfl ?_
    exact ⟨rfl, hb⟩
theorem step_store_row {P : Program} {w : World} {ops : Array Oper} {o : Oper} {a : Act} {K : Act → World → Prop} {Q : Exit → Act → World → Prop} {E : Prop} (hgd : o.guard = none) (ty : TypeId) (x y : Operand) (ho : o.op = .store ty x y)
    (g : Nat) (cells : Array Value) (hx : a.eval x = .pointer (some ⟨g, 0, none⟩)) (hy : a.eval y = .agg cells)
    (t : TypeId) (old : Array Value) (hg : w.heap[g]? = some (.cells old t (0, 0))) (hi : (P.info? ty).map (·.size) = some cells.size)
    (hold : old.size = cells.size) (h1 : cells.all (·.oneCell') = true)
    (h : K (a.put o.dst undef) (w.setRow g cells)) :
    if Region.wanted o (yielded ops a.tmps) = true then Oper.wp P o a w K Q else E := by
  have hw : Region.wanted o (yielded ops a.tmps) = true := by simp [Region.wanted, hgd]
  rw [if_pos hw]
  exact wp_store_row ty x y ho g cells hx hy t old hg hi hold h1 h
theorem qval_new {W : World} {n size g3 g4 g5 : Nat} (h2 : 2 ≤ n) (h32 : n ≤ 32) (hs : size ≤ 4194304) (hm : ARow W g3 5 (List.replicate size (.int .u8 0))) (ht : ARow W g4 22 (List.replicate 17 (.int .u32 0))) (hs2 : ARow W g5 22 (List.replicate 17 (.int .u32 0))) :
    QVal W 0 ⟨.slice none 0 0, .slice (some ⟨g3, 0, none⟩) size size, .slice (some ⟨g4, 0, none⟩) 17 17, .slice (some ⟨g5, 0, none⟩) 17 17, .slice none 0 0, .slice none 0 0⟩ (newM n size) := by
  refine ⟨newM_ok h2 h32 hs, ⟨[], .inl ⟨rfl, rfl⟩, LogOf.new n, Nat.le_refl _⟩, ⟨g3, size, ?_, ?_⟩, words_zero ht (by unfold maxLen; omega), words_zero hs2 (by unfold maxLen; omega), words_none W, words_none W⟩
  · simp [newM]
  · exact bytes_zero hm hs
set_option maxRecDepth 100000 in
set_option maxHeartbeats 4000000 in
theorem rq_new_ok (n size : Nat) (h2 : 2 ≤ n) (h32 : n ≤ 32) (hs : size ≤ 4194304) (h4 : size % 4 = 0) (w : World) :
    Calls Tryz.prog 26 #[.int .i64 n, .int .i64 size] w fun e w' => ∃ P, e = .returned (.tuple #[.agg (qC P (newM n size)).toArray, .int .i64 0]) ∧ QVal w' 0 P (newM n size) ∧ Below w.heap.size w w' ∧ ∀ k, P.has k → w.heap.size ≤ k ∧ k < w'.heap.size := by
  have HF := mhid (rf_new_ok n h2 h32)
  have HM := mhid (fun w' => mrmay_any (size : Int) w')
  have hmay : decide (0 ≤ (size : Int) ∧ (size : Int) ≤ 4194304 ∧ (size : Int) % 4 = 0) = true := decide_eq_true (by omega)
  have mk1 := fun (W : World) => run_make_row' (P := Tryz.prog) 29 5 (.int .u8 0) 1 Tryz.underlying29 info8 rfl .i64 .i64 size (by omega) (by omega) W
  have mk2 : ∀ W : World, (Instr.makeSlice 25 (.int .i64 17) (.int .i64 17)).run Tryz.prog W = .ok (.slice (some ⟨W.heap.size, 0, none⟩) 17 17) (W.alloc (.cells (madeCells #[.int .u32 0] 17) 22)) := fun W => run_make_row' (P := Tryz.prog) 25 22 (.int .u32 0) 4 Tryz.underlying25 info32 rfl .i64 .i64 17 (by omega) (by omega) W
  go_enter Tryz.func26, Tryz.ntmps26
  go_wp2_with fail
  obtain ⟨w1, hw1⟩ : ∃ w1, w1 = w.alloc (.cells qZ.toArray 39) := ⟨_, rfl⟩
  have HR := mhid (show ARow w1 w.heap.size 39 qZ from by rw [hw1]; exact ARow.fresh w _ qZ.toArray)
  have HB := mhid (show Below w.heap.size w w1 from by rw [hw1]; exact (Below.refl _ _).alloc (Nat.le_refl _) _)
  rw [show w.alloc (.cells #[.int .i64 0, .int .i64 0, .slice none 0 0, .slice none 0 0, .int .u32 0, .int .u8 0, .int .u8 0, .int .u8 0, .int .u8 0, .int .u32 0, .slice none 0 0, .slice none 0 0, .slice none 0 0, .slice none 0 0, .int .u8 0, .int .u32 0] 39) = w1 from hw1.symm]
  clear hw1
  refine (HF.out w1).mono ?_
  rintro e w2 ⟨rfl, hb2⟩
  have HR := mhid (HR.out.below hb2)
  have HB := mhid (HB.out.trans (hb2.mono HB.out.size))
  clear hb2
  go_wp2_with fail
  refine (HM.out _).mono ?_
  rintro e w' ⟨rfl, rfl⟩
  rw [hmay]
  have HC := mhid (show ARow (w2.alloc (.cells #[.int .i64 n, .slice none 0 0] 35)) w2.heap.size 35 [.int .i64 n, .slice none 0 0] from ARow.fresh w2 _ #[.int .i64 n, .slice none 0 0])
  have HR0 := HR
  have HR := mhid (HR.out.alloc (.cells #[.int .i64 n, .slice none 0 0] 35))
  have HL := mhid (show w.heap.size < w2.heap.size from HR0.out.lt)
  have HB := mhid (HB.out.alloc HB.out.size (.cells #[.int .i64 n, .slice none 0 0] 35))
  have HLC := mhid (show w2.heap.size < (w2.alloc (.cells #[.int .i64 n, .slice none 0 0] 35)).heap.size from by rw [World.size_alloc]; omega)
  clear HF HM hmay HR0
  go_wp2_with fail
  obtain ⟨C, hC⟩ : ∃ C, C = w2.heap.size := ⟨_, rfl⟩
  rw [← hC]
  rw [← hC] at HC HL HLC
  clear hC
  generalize w2.alloc (.cells #[.int .i64 n, .slice none 0 0] 35) = W at *
  have c0 := HC.out.cell (k := 0) rfl
  have c1 := HC.out.cell (k := 1) rfl
  have HKS := mhid (show ∀ w', Below W.heap.size W w' → w'.cell? ⟨C, 0, none⟩ = some (.int .i64 n) ∧ w'.cell? ⟨C, 1, none⟩ = some (.slice none 0 0) from fun w' hb => ⟨(HC.out.below hb).cell (k := 0) rfl, (HC.out.below hb).cell (k := 1) rfl⟩)
  -- region
  have HKS3 := mhid (show ∀ w' cs, Below W.heap.size W w' → (w'.setRow w.heap.size cs).cell? ⟨C, 0, none⟩ = some (.int .i64 n) ∧ (w'.setRow w.heap.size cs).cell? ⟨C, 1, none⟩ = some (.slice none 0 0) from fun w' cs hb => ⟨((HC.out.below hb).setRow_other (by have := HL.out; omega) cs).cell (k := 0) rfl, ((HC.out.below hb).setRow_other (by have := HL.out; omega) cs).cell (k := 1) rfl⟩)
  have HRB := mhid (show ∀ w', Below W.heap.size W w' → ARow w' w.heap.size 39 qZ from fun w' hb => HR.out.below hb)
  have HBD := mhid (show Below W.heap.size W W.drew from (Below.refl _ _).drew)
  refine wp_region_held_drew (S := (fun w' => w'.cell? ⟨C, 0, none⟩ = some (.int .i64 n) ∧ w'.cell? ⟨C, 1, none⟩ = some (.slice none 0 0))) (by kernel_rfl) (HKS.out _ HBD.out) (fun hHeld => ?_)
  try simp only [List.getElem_toArray, List.getElem_cons_zero, List.getElem_cons_succ]
  obtain ⟨W4, hW4⟩ : ∃ W4, W4 = W.drew := ⟨_, rfl⟩
  have HSZ := mhid (show W4.heap.size = W.heap.size from by rw [hW4]; rfl)
  rw [← hW4] at HBD hHeld ⊢
  clear hW4
  refine wpAnyH_take (i := 0) (v := _) rfl (by kernel_rfl) (by kernel_rfl) (by kernel_rfl) (fun _ _ _ h => h) (Or.inl ⟨by rfl, (by intro w hSw; (try dsimp only at hSw); go_simp; try with_reducible rfl)⟩) (by assumption) ?_
  try simp only [Act.put, List.getElem_toArray, List.getElem_cons_zero, List.getElem_cons_succ, List.setIfInBounds_toArray, List.set_cons_zero, List.set_cons_succ]
  refine wpAnyH_take (i := 1) (v := _) rfl (by kernel_rfl) (by kernel_rfl) (by kernel_rfl) (fun _ _ _ h => h) (Or.inl ⟨by rfl, (by intro w hSw; (try dsimp only at hSw); go_simp; try with_reducible rfl)⟩) (by assumption) ?_
  try simp only [Act.put, List.getElem_toArray, List.getElem_cons_zero, List.getElem_cons_succ, List.setIfInBounds_toArray, List.set_cons_zero, List.set_cons_succ]
  refine wpAnyH_take (i := 2) (v := _) rfl (by kernel_rfl) (by kernel_rfl) (by kernel_rfl) (fun _ _ _ h => h) (Or.inl ⟨by rfl, (by intro w hSw; (try dsimp only at hSw); go_simp; try with_reducible rfl)⟩) (by assumption) ?_
  try simp only [Act.put, List.getElem_toArray, List.getElem_cons_zero, List.getElem_cons_succ, List.setIfInBounds_toArray, List.set_cons_zero, List.set_cons_succ]
  refine wpAnyH_ready (rs := [3, 4, 5]) (by kernel_rfl) (by simp) ?_
  refine (AllReadyH.cons rfl (fun K hK => ?_) (AllReadyH.cons rfl (fun K hK => ?_) (AllReadyH.cons rfl (fun K hK => ?_) AllReadyH.nil)))
  · go_simp
    obtain ⟨W5, hWn⟩ : ∃ Wn, Wn = (W4).alloc (.cells (madeCells #[.int .u8 0] size) 5) := ⟨_, rfl⟩
    rw [← hWn]
    have hbn : Below (W4).heap.size (W4) W5 := by rw [hWn]; exact (Below.refl _ _).alloc (Nat.le_refl _) _
    obtain ⟨g3, hg3⟩ : ∃ g, g = (W4).heap.size := ⟨_, rfl⟩
    have HM3 := mhid (show ARow W5 g3 5 (List.replicate size (.int .u8 0)) from by rw [hg3, hWn, ← made_list]; exact ARow.fresh _ _ _)
    have HG3 := mhid (show w.heap.size < g3 from by rw [hg3]; have := HL.out; have := HB.out.size; have := HBD.out.size; have := HLC.out; have := HSZ.out; omega)
    have HBDn := mhid (HBD.out.trans (hbn.mono HBD.out.size))
    rw [← hg3]
    refine hK.out _ _ (HKS.out _ HBDn.out) (fun hHeld2 => ?_)
    clear hK K hWn hbn hg3
    try simp only [Act.put, List.getElem_toArray, List.getElem_cons_zero, List.getElem_cons_succ, List.setIfInBounds_toArray, List.set_cons_zero, List.set_cons_succ]
    refine wpAnyH_ready (rs := [4, 5]) (by kernel_rfl) (by simp) ?_
    refine (AllReadyH.cons rfl (fun K hK => ?_) (AllReadyH.cons rfl (fun K hK => ?_) AllReadyH.nil))
    · go_simp
      obtain ⟨W6, hWn⟩ : ∃ Wn, Wn = (W5).alloc (.cells (madeCells #[.int .u32 0] 17) 22) := ⟨_, rfl⟩
      rw [← hWn]
      have hbn : Below (W5).heap.size (W5) W6 := by rw [hWn]; exact (Below.refl _ _).alloc (Nat.le_refl _) _
      obtain ⟨g4, hg4⟩ : ∃ g, g = (W5).heap.size := ⟨_, rfl⟩
      have HM4 := mhid (show ARow W6 g4 22 (List.replicate 17 (.int .u32 0)) from by rw [hg4, hWn, ← made_list]; exact ARow.fresh _ _ _)
      have HG4 := mhid (show w.heap.size < g4 from by rw [hg4]; have := HL.out; have := HB.out.size; have := HBDn.out.size; have := HLC.out; have := HSZ.out; omega)
      have HM3 := mhid (HM3.out.below hbn)
      have HBDnn := mhid (HBDn.out.trans (hbn.mono HBDn.out.size))
      rw [← hg4]
      refine hK.out _ _ (HKS.out _ HBDnn.out) (fun hHeld2 => ?_)
      clear hK K hWn hbn hg4
      try simp only [Act.put, List.getElem_toArray, List.getElem_cons_zero, List.getElem_cons_succ, List.setIfInBounds_toArray, List.set_cons_zero, List.set_cons_succ]
      refine wpAnyH_ready (rs := [5]) (by kernel_rfl) (by simp) ?_
      refine (AllReadyH.cons rfl (fun K hK => ?_) AllReadyH.nil)
      · go_simp
        obtain ⟨W7, hWn⟩ : ∃ Wn, Wn = (W6).alloc (.cells (madeCells #[.int .u32 0] 17) 22) := ⟨_, rfl⟩
        rw [← hWn]
        have hbn : Below (W6).heap.size (W6) W7 := by rw [hWn]; exact (Below.refl _ _).alloc (Nat.le_refl _) _
        obtain ⟨g5, hg5⟩ : ∃ g, g = (W6).heap.size := ⟨_, rfl⟩
        have HM5 := mhid (show ARow W7 g5 22 (List.replicate 17 (.int .u32 0)) from by rw [hg5, hWn, ← made_list]; exact ARow.fresh _ _ _)
        have HG5 := mhid (show w.heap.size < g5 from by rw [hg5]; have := HL.out; have := HB.out.size; have := HBDnn.out.size; have := HLC.out; have := HSZ.out; omega)
        have HM3 := mhid (HM3.out.below hbn)
        have HM4 := mhid (HM4.out.below hbn)
        have HBDnnn := mhid (HBDnn.out.trans (hbn.mono HBDnn.out.size))
        rw [← hg5]
        refine hK.out _ _ (HKS.out _ HBDnnn.out) (fun hHeld2 => ?_)
        clear hK K hWn hbn hg5
        try simp only [Act.put, List.getElem_toArray, List.getElem_cons_zero, List.getElem_cons_succ, List.setIfInBounds_toArray, List.set_cons_zero, List.set_cons_succ]
        refine wpAnyH_take (i := 6) (v := _) rfl (by kernel_rfl) (by kernel_rfl) (by kernel_rfl) (fun _ _ _ h => h) (Or.inl ⟨by rfl, (by intro w hSw; (try dsimp only at hSw); go_simp; try with_reducible rfl)⟩) (by assumption) ?_
        try simp only [Act.put, List.getElem_toArray, List.getElem_cons_zero, List.getElem_cons_succ, List.setIfInBounds_toArray, List.set_cons_zero, List.set_cons_succ]
        refine wpAnyH_ready (rs := [7]) (by kernel_rfl) (by simp) ?_
        refine (AllReadyH.cons rfl (fun K hK => ?_) AllReadyH.nil)
        refine step_store_row (by rfl) 39 (.tmp 4) (.tmp 27) (by rfl) w.heap.size _ (by rfl) (by rfl) 39 qZ.toArray (HRB.out _ HBDnnn.out) (by exact q_size) (by rfl) (by simp [Value.oneCell']) ?_
        refine hK.out _ _ (HKS3.out _ _ HBDnnn.out) (fun hHeld2 => ?_)
        clear hK K 
        try simp only [Act.put, List.getElem_toArray, List.getElem_cons_zero, List.getElem_cons_succ, List.setIfInBounds_toArray, List.set_cons_zero, List.set_cons_succ]
        refine wpAnyH_take (i := 8) (v := _) rfl (by kernel_rfl) (by kernel_rfl) (by kernel_rfl) (fun _ _ _ h => h) (Or.inl ⟨by rfl, (by intro w hSw; (try dsimp only at hSw); go_simp; try with_reducible rfl)⟩) (by assumption) ?_
        try simp only [Act.put, List.getElem_toArray, List.getElem_cons_zero, List.getElem_cons_succ, List.setIfInBounds_toArray, List.set_cons_zero, List.set_cons_succ]
        refine wpAnyH_done (by kernel_rfl) ?_ _
        generalize hW9 : World.setRow W7 w.heap.size _ = W9
        go_wp2_with fail
        have hS : ARow W9 w.heap.size 39 (qC ⟨.slice none 0 0, .slice (some ⟨g3, 0, none⟩) size size, .slice (some ⟨g4, 0, none⟩) 17 17, .slice (some ⟨g5, 0, none⟩) 17 17, .slice none 0 0, .slice none 0 0⟩ (newM n size)) := by rw [← hW9]; exact (HRB.out _ HBDnnn.out).setRow _
        have hfin : QVal W9 0 ⟨.slice none 0 0, .slice (some ⟨g3, 0, none⟩) size size, .slice (some ⟨g4, 0, none⟩) 17 17, .slice (some ⟨g5, 0, none⟩) 17 17, .slice none 0 0, .slice none 0 0⟩ (newM n size) := by rw [← hW9]; exact qval_new h2 h32 hs (HM3.out.setRow_other (by have := HG3.out; omega) _) (HM4.out.setRow_other (by have := HG4.out; omega) _) (HM5.out.setRow_other (by have := HG5.out; omega) _)
        have hsz9 : W9.heap.size = W7.heap.size := by rw [← hW9]; simp
        have hfin3 : g3 < W9.heap.size := by rw [hsz9]; exact HM3.out.lt
        have hfin4 : g4 < W9.heap.size := by rw [hsz9]; exact HM4.out.lt
        have hfin5 : g5 < W9.heap.size := by rw [hsz9]; exact HM5.out.lt
        have hbel : Below w.heap.size w W9 := by rw [← hW9]; exact below_setRow (HB.out.trans (HBDnnn.out.mono HB.out.size)) (Nat.le_refl _) _
        have hnew : ∀ k, QP.has ⟨.slice none 0 0, .slice (some ⟨g3, 0, none⟩) size size, .slice (some ⟨g4, 0, none⟩) 17 17, .slice (some ⟨g5, 0, none⟩) 17 17, .slice none 0 0, .slice none 0 0⟩ k → w.heap.size ≤ k ∧ k < W9.heap.size := fun k hk => by
          have l3 := hfin3
          have l4 := hfin4
          have l5 := hfin5
          rcases hk with e | e | e | e | e | e <;> simp [Value.ownBlock] at e
          · subst e; have := HG3.out; omega
          · subst e; have := HG4.out; omega
          · subst e; have := HG5.out; omega
        clear hW9
        exact bodyPost_ret (results_row_slot (P := Tryz.prog) Tryz.results26 _ W9 w.heap.size _ _ (0, 0) _ _ rfl rfl hS Tryz.underlying39 rfl q_size) rfl ⟨_, rfl, hfin, hbel, hnew⟩
    · go_simp
      obtain ⟨W6, hWn⟩ : ∃ Wn, Wn = (W5).alloc (.cells (madeCells #[.int .u32 0] 17) 22) := ⟨_, rfl⟩
      rw [← hWn]
      have hbn : Below (W5).heap.size (W5) W6 := by rw [hWn]; exact (Below.refl _ _).alloc (Nat.le_refl _) _
      obtain ⟨g5, hg5⟩ : ∃ g, g = (W5).heap.size := ⟨_, rfl⟩
      have HM5 := mhid (show ARow W6 g5 22 (List.replicate 17 (.int .u32 0)) from by rw [hg5, hWn, ← made_list]; exact ARow.fresh _ _ _)
      have HG5 := mhid (show w.heap.size < g5 from by rw [hg5]; have := HL.out; have := HB.out.size; have := HBDn.out.size; have := HLC.out; have := HSZ.out; omega)
      have HM3 := mhid (HM3.out.below hbn)
      have HBDnn := mhid (HBDn.out.trans (hbn.mono HBDn.out.size))
      rw [← hg5]
      refine hK.out _ _ (HKS.out _ HBDnn.out) (fun hHeld2 => ?_)
      clear hK K hWn hbn hg5
      try simp only [Act.put, List.getElem_toArray, List.getElem_cons_zero, List.getElem_cons_succ, List.setIfInBounds_toArray, List.set_cons_zero, List.set_cons_succ]
      refine wpAnyH_ready (rs := [4]) (by kernel_rfl) (by simp) ?_
      refine (AllReadyH.cons rfl (fun K hK => ?_) AllReadyH.nil)
      · go_simp
        obtain ⟨W7, hWn⟩ : ∃ Wn, Wn = (W6).alloc (.cells (madeCells #[.int .u32 0] 17) 22) := ⟨_, rfl⟩
        rw [← hWn]
        have hbn : Below (W6).heap.size (W6) W7 := by rw [hWn]; exact (Below.refl _ _).alloc (Nat.le_refl _) _
        obtain ⟨g4, hg4⟩ : ∃ g, g = (W6).heap.size := ⟨_, rfl⟩
        have HM4 := mhid (show ARow W7 g4 22 (List.replicate 17 (.int .u32 0)) from by rw [hg4, hWn, ← made_list]; exact ARow.fresh _ _ _)
        have HG4 := mhid (show w.heap.size < g4 from by rw [hg4]; have := HL.out; have := HB.out.size; have := HBDnn.out.size; have := HLC.out; have := HSZ.out; omega)
        have HM3 := mhid (HM3.out.below hbn)
        have HM5 := mhid (HM5.out.below hbn)
        have HBDnnn := mhid (HBDnn.out.trans (hbn.mono HBDnn.out.size))
        rw [← hg4]
        refine hK.out _ _ (HKS.out _ HBDnnn.out) (fun hHeld2 => ?_)
        clear hK K hWn hbn hg4
        try simp only [Act.put, List.getElem_toArray, List.getElem_cons_zero, List.getElem_cons_succ, List.setIfInBounds_toArray, List.set_cons_zero, List.set_cons_succ]
        refine wpAnyH_take (i := 6) (v := _) rfl (by kernel_rfl) (by kernel_rfl) (by kernel_rfl) (fun _ _ _ h => h) (Or.inl ⟨by rfl, (by intro w hSw; (try dsimp only at hSw); go_simp; try with_reducible rfl)⟩) (by assumption) ?_
        try simp only [Act.put, List.getElem_toArray, List.getElem_cons_zero, List.getElem_cons_succ, List.setIfInBounds_toArray, List.set_cons_zero, List.set_cons_succ]
        refine wpAnyH_ready (rs := [7]) (by kernel_rfl) (by simp) ?_
        refine (AllReadyH.cons rfl (fun K hK => ?_) AllReadyH.nil)
        refine step_store_row (by rfl) 39 (.tmp 4) (.tmp 27) (by rfl) w.heap.size _ (by rfl) (by rfl) 39 qZ.toArray (HRB.out _ HBDnnn.out) (by exact q_size) (by rfl) (by simp [Value.oneCell']) ?_
        refine hK.out _ _ (HKS3.out _ _ HBDnnn.out) (fun hHeld2 => ?_)
        clear hK K 
        try simp only [Act.put, List.getElem_toArray, List.getElem_cons_zero, List.getElem_cons_succ, List.setIfInBounds_toArray, List.set_cons_zero, List.set_cons_succ]
        refine wpAnyH_take (i := 8) (v := _) rfl (by kernel_rfl) (by kernel_rfl) (by kernel_rfl) (fun _ _ _ h => h) (Or.inl ⟨by rfl, (by intro w hSw; (try dsimp only at hSw); go_simp; try with_reducible rfl)⟩) (by assumption) ?_
        try simp only [Act.put, List.getElem_toArray, List.getElem_cons_zero, List.getElem_cons_succ, List.setIfInBounds_toArray, List.set_cons_zero, List.set_cons_succ]
        refine wpAnyH_done (by kernel_rfl) ?_ _
        generalize hW9 : World.setRow W7 w.heap.size _ = W9
        go_wp2_with fail
        have hS : ARow W9 w.heap.size 39 (qC ⟨.slice none 0 0, .slice (some ⟨g3, 0, none⟩) size size, .slice (some ⟨g4, 0, none⟩) 17 17, .slice (some ⟨g5, 0, none⟩) 17 17, .slice none 0 0, .slice none 0 0⟩ (newM n size)) := by rw [← hW9]; exact (HRB.out _ HBDnnn.out).setRow _
        have hfin : QVal W9 0 ⟨.slice none 0 0, .slice (some ⟨g3, 0, none⟩) size size, .slice (some ⟨g4, 0, none⟩) 17 17, .slice (some ⟨g5, 0, none⟩) 17 17, .slice none 0 0, .slice none 0 0⟩ (newM n size) := by rw [← hW9]; exact qval_new h2 h32 hs (HM3.out.setRow_other (by have := HG3.out; omega) _) (HM4.out.setRow_other (by have := HG4.out; omega) _) (HM5.out.setRow_other (by have := HG5.out; omega) _)
        have hsz9 : W9.heap.size = W7.heap.size := by rw [← hW9]; simp
        have hfin3 : g3 < W9.heap.size := by rw [hsz9]; exact HM3.out.lt
        have hfin4 : g4 < W9.heap.size := by rw [hsz9]; exact HM4.out.lt
        have hfin5 : g5 < W9.heap.size := by rw [hsz9]; exact HM5.out.lt
        have hbel : Below w.heap.size w W9 := by rw [← hW9]; exact below_setRow (HB.out.trans (HBDnnn.out.mono HB.out.size)) (Nat.le_refl _) _
        have hnew : ∀ k, QP.has ⟨.slice none 0 0, .slice (some ⟨g3, 0, none⟩) size size, .slice (some ⟨g4, 0, none⟩) 17 17, .slice (some ⟨g5, 0, none⟩) 17 17, .slice none 0 0, .slice none 0 0⟩ k → w.heap.size ≤ k ∧ k < W9.heap.size := fun k hk => by
          have l3 := hfin3
          have l4 := hfin4
          have l5 := hfin5
          rcases hk with e | e | e | e | e | e <;> simp [Value.ownBlock] at e
          · subst e; have := HG3.out; omega
          · subst e; have := HG4.out; omega
          · subst e; have := HG5.out; omega
        clear hW9
        exact bodyPost_ret (results_row_slot (P := Tryz.prog) Tryz.results26 _ W9 w.heap.size _ _ (0, 0) _ _ rfl rfl hS Tryz.underlying39 rfl q_size) rfl ⟨_, rfl, hfin, hbel, hnew⟩
  · go_simp
    obtain ⟨W5, hWn⟩ : ∃ Wn, Wn = (W4).alloc (.cells (madeCells #[.int .u32 0] 17) 22) := ⟨_, rfl⟩
    rw [← hWn]
    have hbn : Below (W4).heap.size (W4) W5 := by rw [hWn]; exact (Below.refl _ _).alloc (Nat.le_refl _) _
    obtain ⟨g4, hg4⟩ : ∃ g, g = (W4).heap.size := ⟨_, rfl⟩
    have HM4 := mhid (show ARow W5 g4 22 (List.replicate 17 (.int .u32 0)) from by rw [hg4, hWn, ← made_list]; exact ARow.fresh _ _ _)
    have HG4 := mhid (show w.heap.size < g4 from by rw [hg4]; have := HL.out; have := HB.out.size; have := HBD.out.size; have := HLC.out; have := HSZ.out; omega)
    have HBDn := mhid (HBD.out.trans (hbn.mono HBD.out.size))
    rw [← hg4]
    refine hK.out _ _ (HKS.out _ HBDn.out) (fun hHeld2 => ?_)
    clear hK K hWn hbn hg4
    try simp only [Act.put, List.getElem_toArray, List.getElem_cons_zero, List.getElem_cons_succ, List.setIfInBounds_toArray, List.set_cons_zero, List.set_cons_succ]
    refine wpAnyH_ready (rs := [3, 5]) (by kernel_rfl) (by simp) ?_
    refine (AllReadyH.cons rfl (fun K hK => ?_) (AllReadyH.cons rfl (fun K hK => ?_) AllReadyH.nil))
    · go_simp
      obtain ⟨W6, hWn⟩ : ∃ Wn, Wn = (W5).alloc (.cells (madeCells #[.int .u8 0] size) 5) := ⟨_, rfl⟩
      rw [← hWn]
      have hbn : Below (W5).heap.size (W5) W6 := by rw [hWn]; exact (Below.refl _ _).alloc (Nat.le_refl _) _
      obtain ⟨g3, hg3⟩ : ∃ g, g = (W5).heap.size := ⟨_, rfl⟩
      have HM3 := mhid (show ARow W6 g3 5 (List.replicate size (.int .u8 0)) from by rw [hg3, hWn, ← made_list]; exact ARow.fresh _ _ _)
      have HG3 := mhid (show w.heap.size < g3 from by rw [hg3]; have := HL.out; have := HB.out.size; have := HBDn.out.size; have := HLC.out; have := HSZ.out; omega)
      have HM4 := mhid (HM4.out.below hbn)
      have HBDnn := mhid (HBDn.out.trans (hbn.mono HBDn.out.size))
      rw [← hg3]
      refine hK.out _ _ (HKS.out _ HBDnn.out) (fun hHeld2 => ?_)
      clear hK K hWn hbn hg3
      try simp only [Act.put, List.getElem_toArray, List.getElem_cons_zero, List.getElem_cons_succ, List.setIfInBounds_toArray, List.set_cons_zero, List.set_cons_succ]
      refine wpAnyH_ready (rs := [5]) (by kernel_rfl) (by simp) ?_
      refine (AllReadyH.cons rfl (fun K hK => ?_) AllReadyH.nil)
      · go_simp
        obtain ⟨W7, hWn⟩ : ∃ Wn, Wn = (W6).alloc (.cells (madeCells #[.int .u32 0] 17) 22) := ⟨_, rfl⟩
        rw [← hWn]
        have hbn : Below (W6).heap.size (W6) W7 := by rw [hWn]; exact (Below.refl _ _).alloc (Nat.le_refl _) _
        obtain ⟨g5, hg5⟩ : ∃ g, g = (W6).heap.size := ⟨_, rfl⟩
        have HM5 := mhid (show ARow W7 g5 22 (List.replicate 17 (.int .u32 0)) from by rw [hg5, hWn, ← made_list]; exact ARow.fresh _ _ _)
        have HG5 := mhid (show w.heap.size < g5 from by rw [hg5]; have := HL.out; have := HB.out.size; have := HBDnn.out.size; have := HLC.out; have := HSZ.out; omega)
        have HM4 := mhid (HM4.out.below hbn)
        have HM3 := mhid (HM3.out.below hbn)
        have HBDnnn := mhid (HBDnn.out.trans (hbn.mono HBDnn.out.size))
        rw [← hg5]
        refine hK.out _ _ (HKS.out _ HBDnnn.out) (fun hHeld2 => ?_)
        clear hK K hWn hbn hg5
        try simp only [Act.put, List.getElem_toArray, List.getElem_cons_zero, List.getElem_cons_succ, List.setIfInBounds_toArray, List.set_cons_zero, List.set_cons_succ]
        refine wpAnyH_take (i := 6) (v := _) rfl (by kernel_rfl) (by kernel_rfl) (by kernel_rfl) (fun _ _ _ h => h) (Or.inl ⟨by rfl, (by intro w hSw; (try dsimp only at hSw); go_simp; try with_reducible rfl)⟩) (by assumption) ?_
        try simp only [Act.put, List.getElem_toArray, List.getElem_cons_zero, List.getElem_cons_succ, List.setIfInBounds_toArray, List.set_cons_zero, List.set_cons_succ]
        refine wpAnyH_ready (rs := [7]) (by kernel_rfl) (by simp) ?_
        refine (AllReadyH.cons rfl (fun K hK => ?_) AllReadyH.nil)
        refine step_store_row (by rfl) 39 (.tmp 4) (.tmp 27) (by rfl) w.heap.size _ (by rfl) (by rfl) 39 qZ.toArray (HRB.out _ HBDnnn.out) (by exact q_size) (by rfl) (by simp [Value.oneCell']) ?_
        refine hK.out _ _ (HKS3.out _ _ HBDnnn.out) (fun hHeld2 => ?_)
        clear hK K 
        try simp only [Act.put, List.getElem_toArray, List.getElem_cons_zero, List.getElem_cons_succ, List.setIfInBounds_toArray, List.set_cons_zero, List.set_cons_succ]
        refine wpAnyH_take (i := 8) (v := _) rfl (by kernel_rfl) (by kernel_rfl) (by kernel_rfl) (fun _ _ _ h => h) (Or.inl ⟨by rfl, (by intro w hSw; (try dsimp only at hSw); go_simp; try with_reducible rfl)⟩) (by assumption) ?_
        try simp only [Act.put, List.getElem_toArray, List.getElem_cons_zero, List.getElem_cons_succ, List.setIfInBounds_toArray, List.set_cons_zero, List.set_cons_succ]
        refine wpAnyH_done (by kernel_rfl) ?_ _
        generalize hW9 : World.setRow W7 w.heap.size _ = W9
        go_wp2_with fail
        have hS : ARow W9 w.heap.size 39 (qC ⟨.slice none 0 0, .slice (some ⟨g3, 0, none⟩) size size, .slice (some ⟨g4, 0, none⟩) 17 17, .slice (some ⟨g5, 0, none⟩) 17 17, .slice none 0 0, .slice none 0 0⟩ (newM n size)) := by rw [← hW9]; exact (HRB.out _ HBDnnn.out).setRow _
        have hfin : QVal W9 0 ⟨.slice none 0 0, .slice (some ⟨g3, 0, none⟩) size size, .slice (some ⟨g4, 0, none⟩) 17 17, .slice (some ⟨g5, 0, none⟩) 17 17, .slice none 0 0, .slice none 0 0⟩ (newM n size) := by rw [← hW9]; exact qval_new h2 h32 hs (HM3.out.setRow_other (by have := HG3.out; omega) _) (HM4.out.setRow_other (by have := HG4.out; omega) _) (HM5.out.setRow_other (by have := HG5.out; omega) _)
        have hsz9 : W9.heap.size = W7.heap.size := by rw [← hW9]; simp
        have hfin3 : g3 < W9.heap.size := by rw [hsz9]; exact HM3.out.lt
        have hfin4 : g4 < W9.heap.size := by rw [hsz9]; exact HM4.out.lt
        have hfin5 : g5 < W9.heap.size := by rw [hsz9]; exact HM5.out.lt
        have hbel : Below w.heap.size w W9 := by rw [← hW9]; exact below_setRow (HB.out.trans (HBDnnn.out.mono HB.out.size)) (Nat.le_refl _) _
        have hnew : ∀ k, QP.has ⟨.slice none 0 0, .slice (some ⟨g3, 0, none⟩) size size, .slice (some ⟨g4, 0, none⟩) 17 17, .slice (some ⟨g5, 0, none⟩) 17 17, .slice none 0 0, .slice none 0 0⟩ k → w.heap.size ≤ k ∧ k < W9.heap.size := fun k hk => by
          have l3 := hfin3
          have l4 := hfin4
          have l5 := hfin5
          rcases hk with e | e | e | e | e | e <;> simp [Value.ownBlock] at e
          · subst e; have := HG3.out; omega
          · subst e; have := HG4.out; omega
          · subst e; have := HG5.out; omega
        clear hW9
        exact bodyPost_ret (results_row_slot (P := Tryz.prog) Tryz.results26 _ W9 w.heap.size _ _ (0, 0) _ _ rfl rfl hS Tryz.underlying39 rfl q_size) rfl ⟨_, rfl, hfin, hbel, hnew⟩
    · go_simp
      obtain ⟨W6, hWn⟩ : ∃ Wn, Wn = (W5).alloc (.cells (madeCells #[.int .u32 0] 17) 22) := ⟨_, rfl⟩
      rw [← hWn]
      have hbn : Below (W5).heap.size (W5) W6 := by rw [hWn]; exact (Below.refl _ _).alloc (Nat.le_refl _) _
      obtain ⟨g5, hg5⟩ : ∃ g, g = (W5).heap.size := ⟨_, rfl⟩
      have HM5 := mhid (show ARow W6 g5 22 (List.replicate 17 (.int .u32 0)) from by rw [hg5, hWn, ← made_list]; exact ARow.fresh _ _ _)
      have HG5 := mhid (show w.heap.size < g5 from by rw [hg5]; have := HL.out; have := HB.out.size; have := HBDn.out.size; have := HLC.out; have := HSZ.out; omega)
      have HM4 := mhid (HM4.out.below hbn)
      have HBDnn := mhid (HBDn.out.trans (hbn.mono HBDn.out.size))
      rw [← hg5]
      refine hK.out _ _ (HKS.out _ HBDnn.out) (fun hHeld2 => ?_)
      clear hK K hWn hbn hg5
      try simp only [Act.put, List.getElem_toArray, List.getElem_cons_zero, List.getElem_cons_succ, List.setIfInBounds_toArray, List.set_cons_zero, List.set_cons_succ]
      refine wpAnyH_ready (rs := [3]) (by kernel_rfl) (by simp) ?_
      refine (AllReadyH.cons rfl (fun K hK => ?_) AllReadyH.nil)
      · go_simp
        obtain ⟨W7, hWn⟩ : ∃ Wn, Wn = (W6).alloc (.cells (madeCells #[.int .u8 0] size) 5) := ⟨_, rfl⟩
        rw [← hWn]
        have hbn : Below (W6).heap.size (W6) W7 := by rw [hWn]; exact (Below.refl _ _).alloc (Nat.le_refl _) _
        obtain ⟨g3, hg3⟩ : ∃ g, g = (W6).heap.size := ⟨_, rfl⟩
        have HM3 := mhid (show ARow W7 g3 5 (List.replicate size (.int .u8 0)) from by rw [hg3, hWn, ← made_list]; exact ARow.fresh _ _ _)
        have HG3 := mhid (show w.heap.size < g3 from by rw [hg3]; have := HL.out; have := HB.out.size; have := HBDnn.out.size; have := HLC.out; have := HSZ.out; omega)
        have HM4 := mhid (HM4.out.below hbn)
        have HM5 := mhid (HM5.out.below hbn)
        have HBDnnn := mhid (HBDnn.out.trans (hbn.mono HBDnn.out.size))
        rw [← hg3]
        refine hK.out _ _ (HKS.out _ HBDnnn.out) (fun hHeld2 => ?_)
        clear hK K hWn hbn hg3
        try simp only [Act.put, List.getElem_toArray, List.getElem_cons_zero, List.getElem_cons_succ, List.setIfInBounds_toArray, List.set_cons_zero, List.set_cons_succ]
        refine wpAnyH_take (i := 6) (v := _) rfl (by kernel_rfl) (by kernel_rfl) (by kernel_rfl) (fun _ _ _ h => h) (Or.inl ⟨by rfl, (by intro w hSw; (try dsimp only at hSw); go_simp; try with_reducible rfl)⟩) (by assumption) ?_
        try simp only [Act.put, List.getElem_toArray, List.getElem_cons_zero, List.getElem_cons_succ, List.setIfInBounds_toArray, List.set_cons_zero, List.set_cons_succ]
        refine wpAnyH_ready (rs := [7]) (by kernel_rfl) (by simp) ?_
        refine (AllReadyH.cons rfl (fun K hK => ?_) AllReadyH.nil)
        refine step_store_row (by rfl) 39 (.tmp 4) (.tmp 27) (by rfl) w.heap.size _ (by rfl) (by rfl) 39 qZ.toArray (HRB.out _ HBDnnn.out) (by exact q_size) (by rfl) (by simp [Value.oneCell']) ?_
        refine hK.out _ _ (HKS3.out _ _ HBDnnn.out) (fun hHeld2 => ?_)
        clear hK K 
        try simp only [Act.put, List.getElem_toArray, List.getElem_cons_zero, List.getElem_cons_succ, List.setIfInBounds_toArray, List.set_cons_zero, List.set_cons_succ]
        refine wpAnyH_take (i := 8) (v := _) rfl (by kernel_rfl) (by kernel_rfl) (by kernel_rfl) (fun _ _ _ h => h) (Or.inl ⟨by rfl, (by intro w hSw; (try dsimp only at hSw); go_simp; try with_reducible rfl)⟩) (by assumption) ?_
        try simp only [Act.put, List.getElem_toArray, List.getElem_cons_zero, List.getElem_cons_succ, List.setIfInBounds_toArray, List.set_cons_zero, List.set_cons_succ]
        refine wpAnyH_done (by kernel_rfl) ?_ _
        generalize hW9 : World.setRow W7 w.heap.size _ = W9
        go_wp2_with fail
        have hS : ARow W9 w.heap.size 39 (qC ⟨.slice none 0 0, .slice (some ⟨g3, 0, none⟩) size size, .slice (some ⟨g4, 0, none⟩) 17 17, .slice (some ⟨g5, 0, none⟩) 17 17, .slice none 0 0, .slice none 0 0⟩ (newM n size)) := by rw [← hW9]; exact (HRB.out _ HBDnnn.out).setRow _
        have hfin : QVal W9 0 ⟨.slice none 0 0, .slice (some ⟨g3, 0, none⟩) size size, .slice (some ⟨g4, 0, none⟩) 17 17, .slice (some ⟨g5, 0, none⟩) 17 17, .slice none 0 0, .slice none 0 0⟩ (newM n size) := by rw [← hW9]; exact qval_new h2 h32 hs (HM3.out.setRow_other (by have := HG3.out; omega) _) (HM4.out.setRow_other (by have := HG4.out; omega) _) (HM5.out.setRow_other (by have := HG5.out; omega) _)
        have hsz9 : W9.heap.size = W7.heap.size := by rw [← hW9]; simp
        have hfin3 : g3 < W9.heap.size := by rw [hsz9]; exact HM3.out.lt
        have hfin4 : g4 < W9.heap.size := by rw [hsz9]; exact HM4.out.lt
        have hfin5 : g5 < W9.heap.size := by rw [hsz9]; exact HM5.out.lt
        have hbel : Below w.heap.size w W9 := by rw [← hW9]; exact below_setRow (HB.out.trans (HBDnnn.out.mono HB.out.size)) (Nat.le_refl _) _
        have hnew : ∀ k, QP.has ⟨.slice none 0 0, .slice (some ⟨g3, 0, none⟩) size size, .slice (some ⟨g4, 0, none⟩) 17 17, .slice (some ⟨g5, 0, none⟩) 17 17, .slice none 0 0, .slice none 0 0⟩ k → w.heap.size ≤ k ∧ k < W9.heap.size := fun k hk => by
          have l3 := hfin3
          have l4 := hfin4
          have l5 := hfin5
          rcases hk with e | e | e | e | e | e <;> simp [Value.ownBlock] at e
          · subst e; have := HG3.out; omega
          · subst e; have := HG4.out; omega
          · subst e; have := HG5.out; omega
        clear hW9
        exact bodyPost_ret (results_row_slot (P := Tryz.prog) Tryz.results26 _ W9 w.heap.size _ _ (0, 0) _ _ rfl rfl hS Tryz.underlying39 rfl q_size) rfl ⟨_, rfl, hfin, hbel, hnew⟩
  · go_simp
    obtain ⟨W5, hWn⟩ : ∃ Wn, Wn = (W4).alloc (.cells (madeCells #[.int .u32 0] 17) 22) := ⟨_, rfl⟩
    rw [← hWn]
    have hbn : Below (W4).heap.size (W4) W5 := by rw [hWn]; exact (Below.refl _ _).alloc (Nat.le_refl _) _
    obtain ⟨g5, hg5⟩ : ∃ g, g = (W4).heap.size := ⟨_, rfl⟩
    have HM5 := mhid (show ARow W5 g5 22 (List.replicate 17 (.int .u32 0)) from by rw [hg5, hWn, ← made_list]; exact ARow.fresh _ _ _)
    have HG5 := mhid (show w.heap.size < g5 from by rw [hg5]; have := HL.out; have := HB.out.size; have := HBD.out.size; have := HLC.out; have := HSZ.out; omega)
    have HBDn := mhid (HBD.out.trans (hbn.mono HBD.out.size))
    rw [← hg5]
    refine hK.out _ _ (HKS.out _ HBDn.out) (fun hHeld2 => ?_)
    clear hK K hWn hbn hg5
    try simp only [Act.put, List.getElem_toArray, List.getElem_cons_zero, List.getElem_cons_succ, List.setIfInBounds_toArray, List.set_cons_zero, List.set_cons_succ]
    refine wpAnyH_ready (rs := [3, 4]) (by kernel_rfl) (by simp) ?_
    refine (AllReadyH.cons rfl (fun K hK => ?_) (AllReadyH.cons rfl (fun K hK => ?_) AllReadyH.nil))
    · go_simp
      obtain ⟨W6, hWn⟩ : ∃ Wn, Wn = (W5).alloc (.cells (madeCells #[.int .u8 0] size) 5) := ⟨_, rfl⟩
      rw [← hWn]
      have hbn : Below (W5).heap.size (W5) W6 := by rw [hWn]; exact (Below.refl _ _).alloc (Nat.le_refl _) _
      obtain ⟨g3, hg3⟩ : ∃ g, g = (W5).heap.size := ⟨_, rfl⟩
      have HM3 := mhid (show ARow W6 g3 5 (List.replicate size (.int .u8 0)) from by rw [hg3, hWn, ← made_list]; exact ARow.fresh _ _ _)
      have HG3 := mhid (show w.heap.size < g3 from by rw [hg3]; have := HL.out; have := HB.out.size; have := HBDn.out.size; have := HLC.out; have := HSZ.out; omega)
      have HM5 := mhid (HM5.out.below hbn)
      have HBDnn := mhid (HBDn.out.trans (hbn.mono HBDn.out.size))
      rw [← hg3]
      refine hK.out _ _ (HKS.out _ HBDnn.out) (fun hHeld2 => ?_)
      clear hK K hWn hbn hg3
      try simp only [Act.put, List.getElem_toArray, List.getElem_cons_zero, List.getElem_cons_succ, List.setIfInBounds_toArray, List.set_cons_zero, List.set_cons_succ]
      refine wpAnyH_ready (rs := [4]) (by kernel_rfl) (by simp) ?_
      refine (AllReadyH.cons rfl (fun K hK => ?_) AllReadyH.nil)
      · go_simp
        obtain ⟨W7, hWn⟩ : ∃ Wn, Wn = (W6).alloc (.cells (madeCells #[.int .u32 0] 17) 22) := ⟨_, rfl⟩
        rw [← hWn]
        have hbn : Below (W6).heap.size (W6) W7 := by rw [hWn]; exact (Below.refl _ _).alloc (Nat.le_refl _) _
        obtain ⟨g4, hg4⟩ : ∃ g, g = (W6).heap.size := ⟨_, rfl⟩
        have HM4 := mhid (show ARow W7 g4 22 (List.replicate 17 (.int .u32 0)) from by rw [hg4, hWn, ← made_list]; exact ARow.fresh _ _ _)
        have HG4 := mhid (show w.heap.size < g4 from by rw [hg4]; have := HL.out; have := HB.out.size; have := HBDnn.out.size; have := HLC.out; have := HSZ.out; omega)
        have HM5 := mhid (HM5.out.below hbn)
        have HM3 := mhid (HM3.out.below hbn)
        have HBDnnn := mhid (HBDnn.out.trans (hbn.mono HBDnn.out.size))
        rw [← hg4]
        refine hK.out _ _ (HKS.out _ HBDnnn.out) (fun hHeld2 => ?_)
        clear hK K hWn hbn hg4
        try simp only [Act.put, List.getElem_toArray, List.getElem_cons_zero, List.getElem_cons_succ, List.setIfInBounds_toArray, List.set_cons_zero, List.set_cons_succ]
        refine wpAnyH_take (i := 6) (v := _) rfl (by kernel_rfl) (by kernel_rfl) (by kernel_rfl) (fun _ _ _ h => h) (Or.inl ⟨by rfl, (by intro w hSw; (try dsimp only at hSw); go_simp; try with_reducible rfl)⟩) (by assumption) ?_
        try simp only [Act.put, List.getElem_toArray, List.getElem_cons_zero, List.getElem_cons_succ, List.setIfInBounds_toArray, List.set_cons_zero, List.set_cons_succ]
        refine wpAnyH_ready (rs := [7]) (by kernel_rfl) (by simp) ?_
        refine (AllReadyH.cons rfl (fun K hK => ?_) AllReadyH.nil)
        refine step_store_row (by rfl) 39 (.tmp 4) (.tmp 27) (by rfl) w.heap.size _ (by rfl) (by rfl) 39 qZ.toArray (HRB.out _ HBDnnn.out) (by exact q_size) (by rfl) (by simp [Value.oneCell']) ?_
        refine hK.out _ _ (HKS3.out _ _ HBDnnn.out) (fun hHeld2 => ?_)
        clear hK K 
        try simp only [Act.put, List.getElem_toArray, List.getElem_cons_zero, List.getElem_cons_succ, List.setIfInBounds_toArray, List.set_cons_zero, List.set_cons_succ]
        refine wpAnyH_take (i := 8) (v := _) rfl (by kernel_rfl) (by kernel_rfl) (by kernel_rfl) (fun _ _ _ h => h) (Or.inl ⟨by rfl, (by intro w hSw; (try dsimp only at hSw); go_simp; try with_reducible rfl)⟩) (by assumption) ?_
        try simp only [Act.put, List.getElem_toArray, List.getElem_cons_zero, List.getElem_cons_succ, List.setIfInBounds_toArray, List.set_cons_zero, List.set_cons_succ]
        refine wpAnyH_done (by kernel_rfl) ?_ _
        generalize hW9 : World.setRow W7 w.heap.size _ = W9
        go_wp2_with fail
        have hS : ARow W9 w.heap.size 39 (qC ⟨.slice none 0 0, .slice (some ⟨g3, 0, none⟩) size size, .slice (some ⟨g4, 0, none⟩) 17 17, .slice (some ⟨g5, 0, none⟩) 17 17, .slice none 0 0, .slice none 0 0⟩ (newM n size)) := by rw [← hW9]; exact (HRB.out _ HBDnnn.out).setRow _
        have hfin : QVal W9 0 ⟨.slice none 0 0, .slice (some ⟨g3, 0, none⟩) size size, .slice (some ⟨g4, 0, none⟩) 17 17, .slice (some ⟨g5, 0, none⟩) 17 17, .slice none 0 0, .slice none 0 0⟩ (newM n size) := by rw [← hW9]; exact qval_new h2 h32 hs (HM3.out.setRow_other (by have := HG3.out; omega) _) (HM4.out.setRow_other (by have := HG4.out; omega) _) (HM5.out.setRow_other (by have := HG5.out; omega) _)
        have hsz9 : W9.heap.size = W7.heap.size := by rw [← hW9]; simp
        have hfin3 : g3 < W9.heap.size := by rw [hsz9]; exact HM3.out.lt
        have hfin4 : g4 < W9.heap.size := by rw [hsz9]; exact HM4.out.lt
        have hfin5 : g5 < W9.heap.size := by rw [hsz9]; exact HM5.out.lt
        have hbel : Below w.heap.size w W9 := by rw [← hW9]; exact below_setRow (HB.out.trans (HBDnnn.out.mono HB.out.size)) (Nat.le_refl _) _
        have hnew : ∀ k, QP.has ⟨.slice none 0 0, .slice (some ⟨g3, 0, none⟩) size size, .slice (some ⟨g4, 0, none⟩) 17 17, .slice (some ⟨g5, 0, none⟩) 17 17, .slice none 0 0, .slice none 0 0⟩ k → w.heap.size ≤ k ∧ k < W9.heap.size := fun k hk => by
          have l3 := hfin3
          have l4 := hfin4
          have l5 := hfin5
          rcases hk with e | e | e | e | e | e <;> simp [Value.ownBlock] at e
          · subst e; have := HG3.out; omega
          · subst e; have := HG4.out; omega
          · subst e; have := HG5.out; omega
        clear hW9
        exact bodyPost_ret (results_row_slot (P := Tryz.prog) Tryz.results26 _ W9 w.heap.size _ _ (0, 0) _ _ rfl rfl hS Tryz.underlying39 rfl q_size) rfl ⟨_, rfl, hfin, hbel, hnew⟩
    · go_simp
      obtain ⟨W6, hWn⟩ : ∃ Wn, Wn = (W5).alloc (.cells (madeCells #[.int .u32 0] 17) 22) := ⟨_, rfl⟩
      rw [← hWn]
      have hbn : Below (W5).heap.size (W5) W6 := by rw [hWn]; exact (Below.refl _ _).alloc (Nat.le_refl _) _
      obtain ⟨g4, hg4⟩ : ∃ g, g = (W5).heap.size := ⟨_, rfl⟩
      have HM4 := mhid (show ARow W6 g4 22 (List.replicate 17 (.int .u32 0)) from by rw [hg4, hWn, ← made_list]; exact ARow.fresh _ _ _)
      have HG4 := mhid (show w.heap.size < g4 from by rw [hg4]; have := HL.out; have := HB.out.size; have := HBDn.out.size; have := HLC.out; have := HSZ.out; omega)
      have HM5 := mhid (HM5.out.below hbn)
      have HBDnn := mhid (HBDn.out.trans (hbn.mono HBDn.out.size))
      rw [← hg4]
      refine hK.out _ _ (HKS.out _ HBDnn.out) (fun hHeld2 => ?_)
      clear hK K hWn hbn hg4
      try simp only [Act.put, List.getElem_toArray, List.getElem_cons_zero, List.getElem_cons_succ, List.setIfInBounds_toArray, List.set_cons_zero, List.set_cons_succ]
      refine wpAnyH_ready (rs := [3]) (by kernel_rfl) (by simp) ?_
      refine (AllReadyH.cons rfl (fun K hK => ?_) AllReadyH.nil)
      · go_simp
        obtain ⟨W7, hWn⟩ : ∃ Wn, Wn = (W6).alloc (.cells (madeCells #[.int .u8 0] size) 5) := ⟨_, rfl⟩
        rw [← hWn]
        have hbn : Below (W6).heap.size (W6) W7 := by rw [hWn]; exact (Below.refl _ _).alloc (Nat.le_refl _) _
        obtain ⟨g3, hg3⟩ : ∃ g, g = (W6).heap.size := ⟨_, rfl⟩
        have HM3 := mhid (show ARow W7 g3 5 (List.replicate size (.int .u8 0)) from by rw [hg3, hWn, ← made_list]; exact ARow.fresh _ _ _)
        have HG3 := mhid (show w.heap.size < g3 from by rw [hg3]; have := HL.out; have := HB.out.size; have := HBDnn.out.size; have := HLC.out; have := HSZ.out; omega)
        have HM5 := mhid (HM5.out.below hbn)
        have HM4 := mhid (HM4.out.below hbn)
        have HBDnnn := mhid (HBDnn.out.trans (hbn.mono HBDnn.out.size))
        rw [← hg3]
        refine hK.out _ _ (HKS.out _ HBDnnn.out) (fun hHeld2 => ?_)
        clear hK K hWn hbn hg3
        try simp only [Act.put, List.getElem_toArray, List.getElem_cons_zero, List.getElem_cons_succ, List.setIfInBounds_toArray, List.set_cons_zero, List.set_cons_succ]
        refine wpAnyH_take (i := 6) (v := _) rfl (by kernel_rfl) (by kernel_rfl) (by kernel_rfl) (fun _ _ _ h => h) (Or.inl ⟨by rfl, (by intro w hSw; (try dsimp only at hSw); go_simp; try with_reducible rfl)⟩) (by assumption) ?_
        try simp only [Act.put, List.getElem_toArray, List.getElem_cons_zero, List.getElem_cons_succ, List.setIfInBounds_toArray, List.set_cons_zero, List.set_cons_succ]
        refine wpAnyH_ready (rs := [7]) (by kernel_rfl) (by simp) ?_
        refine (AllReadyH.cons rfl (fun K hK => ?_) AllReadyH.nil)
        refine step_store_row (by rfl) 39 (.tmp 4) (.tmp 27) (by rfl) w.heap.size _ (by rfl) (by rfl) 39 qZ.toArray (HRB.out _ HBDnnn.out) (by exact q_size) (by rfl) (by simp [Value.oneCell']) ?_
        refine hK.out _ _ (HKS3.out _ _ HBDnnn.out) (fun hHeld2 => ?_)
        clear hK K 
        try simp only [Act.put, List.getElem_toArray, List.getElem_cons_zero, List.getElem_cons_succ, List.setIfInBounds_toArray, List.set_cons_zero, List.set_cons_succ]
        refine wpAnyH_take (i := 8) (v := _) rfl (by kernel_rfl) (by kernel_rfl) (by kernel_rfl) (fun _ _ _ h => h) (Or.inl ⟨by rfl, (by intro w hSw; (try dsimp only at hSw); go_simp; try with_reducible rfl)⟩) (by assumption) ?_
        try simp only [Act.put, List.getElem_toArray, List.getElem_cons_zero, List.getElem_cons_succ, List.setIfInBounds_toArray, List.set_cons_zero, List.set_cons_succ]
        refine wpAnyH_done (by kernel_rfl) ?_ _
        generalize hW9 : World.setRow W7 w.heap.size _ = W9
        go_wp2_with fail
        have hS : ARow W9 w.heap.size 39 (qC ⟨.slice none 0 0, .slice (some ⟨g3, 0, none⟩) size size, .slice (some ⟨g4, 0, none⟩) 17 17, .slice (some ⟨g5, 0, none⟩) 17 17, .slice none 0 0, .slice none 0 0⟩ (newM n size)) := by rw [← hW9]; exact (HRB.out _ HBDnnn.out).setRow _
        have hfin : QVal W9 0 ⟨.slice none 0 0, .slice (some ⟨g3, 0, none⟩) size size, .slice (some ⟨g4, 0, none⟩) 17 17, .slice (some ⟨g5, 0, none⟩) 17 17, .slice none 0 0, .slice none 0 0⟩ (newM n size) := by rw [← hW9]; exact qval_new h2 h32 hs (HM3.out.setRow_other (by have := HG3.out; omega) _) (HM4.out.setRow_other (by have := HG4.out; omega) _) (HM5.out.setRow_other (by have := HG5.out; omega) _)
        have hsz9 : W9.heap.size = W7.heap.size := by rw [← hW9]; simp
        have hfin3 : g3 < W9.heap.size := by rw [hsz9]; exact HM3.out.lt
        have hfin4 : g4 < W9.heap.size := by rw [hsz9]; exact HM4.out.lt
        have hfin5 : g5 < W9.heap.size := by rw [hsz9]; exact HM5.out.lt
        have hbel : Below w.heap.size w W9 := by rw [← hW9]; exact below_setRow (HB.out.trans (HBDnnn.out.mono HB.out.size)) (Nat.le_refl _) _
        have hnew : ∀ k, QP.has ⟨.slice none 0 0, .slice (some ⟨g3, 0, none⟩) size size, .slice (some ⟨g4, 0, none⟩) 17 17, .slice (some ⟨g5, 0, none⟩) 17 17, .slice none 0 0, .slice none 0 0⟩ k → w.heap.size ≤ k ∧ k < W9.heap.size := fun k hk => by
          have l3 := hfin3
          have l4 := hfin4
          have l5 := hfin5
          rcases hk with e | e | e | e | e | e <;> simp [Value.ownBlock] at e
          · subst e; have := HG3.out; omega
          · subst e; have := HG4.out; omega
          · subst e; have := HG5.out; omega
        clear hW9
        exact bodyPost_ret (results_row_slot (P := Tryz.prog) Tryz.results26 _ W9 w.heap.size _ _ (0, 0) _ _ rfl rfl hS Tryz.underlying39 rfl q_size) rfl ⟨_, rfl, hfin, hbel, hnew⟩
end Go.Proofs.YtgdebchbdmogcaaGreatDoor
/- A start's machine, and the document's, side by side. No function of the program is walked here. -/
namespace Go.Proofs.YtgdebchbdmogcaaGreatDoor
open Go.RowKit
set_option linter.unusedVariables false
set_option linter.unusedSimpArgs false
theorem QVal.keepO {w w' : World} {N : Nat} {P : QP} {m : Mx} {S : Nat → Prop} (h : QVal w N P m) (o : Only S w w') (hne : ∀ k, P.has k → ¬ S k) : QVal w' N P m := by
  have hb : ∀ k, P.has k → k < w.heap.size → w'.heap[k]? = w.heap[k]? := fun k hp hl => o.block k hl (hne k hp)
  obtain ⟨h1, ⟨L, h2, h3, h4⟩, ⟨g, cap, h5, h6⟩, h7, h8, h9, h10⟩ := h
  refine ⟨h1, ⟨L, ?_, h3, h4⟩, ⟨g, cap, h5, h6.keep o (hne g (.inr (.inl (by rw [h5]; rfl))))⟩, h7.keepK (fun k e => hb k (.inr (.inr (.inl e)))), h8.keepK (fun k e => hb k (.inr (.inr (.inr (.inl e))))), h9.keepK (fun k e => hb k (.inr (.inr (.inr (.inr (.inl e)))))), h10.keepK (fun k e => hb k (.inr (.inr (.inr (.inr (.inr e))))))⟩
  rcases h2 with h2 | ⟨g2, cap2, q1, q2, q3⟩
  · exact .inl h2
  · exact .inr ⟨g2, cap2, q1, Nat.lt_of_lt_of_le q2 o.size, fun j u hu => (World.cell?_of_block (hb g2 (.inl (by rw [q1]; rfl)) q2)).trans (q3 j u hu)⟩
theorem step_load_row {P : Program} {w : World} {ops : Array Oper} {o : Oper} {a : Act} {K : Act → World → Prop} {Q : Exit → Act → World → Prop} {E : Prop} (hgd : o.guard = none) (ty : TypeId) (x : Operand) (ho : o.op = .load ty x)
    (g : Nat) (hx : a.eval x = .pointer (some ⟨g, 0, none⟩)) (t : TypeId) (cs : Array Value) (fr : Nat × Nat) (d : TypeDesc) (hg : w.heap[g]? = some (.cells cs t fr))
    (hu : P.underlying ty = some d) (hd : (match d with | .struct _ | .array _ _ => true | _ => false) = true) (hi : (P.info? ty).map (·.size) = some cs.size)
    (h : K (a.put o.dst (.agg cs)) w) : if Region.wanted o (yielded ops a.tmps) = true then Oper.wp P o a w K Q else E := by
  have hw : Region.wanted o (yielded ops a.tmps) = true := by simp [Region.wanted, hgd]
  rw [if_pos hw]
  exact wp_load_row ty x ho g hx t cs fr d hg hu hd hi h
/-- A machine of one's own, the document's in the box X. -/
structure MB (W1 w : World) (G : MG) (M : Nat) (m : Mx) (P : QP) (mq : Mx) (N X : Nat) : Prop where
  mis : MIs W1 w G M m
  q : QVal w N P mq
  off : QOff w G P
  box : ARow w X 39 (qC P mq)
  hx : G.R X = .none
  hX : W1.heap.size ≤ X
  ne : ∀ k, P.has k → k ≠ X ∧ W1.heap.size ≤ k
section
variable {W1 w w' : World} {G : MG} {M : Nat} {m m' mq mq' : Mx} {P P' : QP} {N N' X : Nat}
theorem MB.mach (h : MB W1 w G M m P mq N X) (ht : MTo W1 w w' G M m') : ∃ G', MB W1 w' G' M m' P mq N X ∧ MKeeps w w' G G' := by
  obtain ⟨G', h1, hk⟩ := ht
  have hl := h.box.lt
  exact ⟨G', ⟨h1, h.q.other h.off hk, h.off.keep hk, h.box.of_block (hk.1.block X hl (fun hC => hC h.hx)), hk.2 X hl h.hx, h.hX, h.ne⟩, hk⟩
theorem MB.keepb (h : MB W1 w G M m P mq N X) (hb : Below w.heap.size w w') : MB W1 w' G M m P mq N X :=
  ⟨h.mis.keepb hb, h.q.keep hb, h.off.keepb hb.size, h.box.below hb, h.hx, h.hX, h.ne⟩
theorem MB.only (h : MB W1 w G M m P mq N X) (o : Only (fun k => k = X) w w') (hbox : ARow w' X 39 (qC P' mq')) (hq : QVal w N' P' mq') (hoff : QOff w G P') (hne : ∀ k, P'.has k → k ≠ X ∧ W1.heap.size ≤ k) : MB W1 w' G M m P' mq' N' X :=
  ⟨⟨h.mis.at'.keep o (fun k hk e => hk (by rw [e]; exact h.hx)), h.mis.lo, h.mis.bel.trans (o.below h.mis.bel.size (fun k hk e => by have := h.hX; omega))⟩, hq.keepO o (fun k hk => (hne k hk).1), hoff.keepb o.size, hbox, h.hx, h.hX, hne⟩
theorem MB.newrow (h : MB W1 w G M m P mq N X) (hs : w.heap.size ≤ w'.heap.size) (hn : QNew w w' P P') : QOff w' G P' ∧ ∀ k, P'.has k → k ≠ X ∧ W1.heap.size ≤ k :=
  ⟨h.off.new h.mis hs hn, fun k hk => by
    have hl := h.box.lt
    have hs1 := h.mis.bel.size
    rcases hn k hk with h1 | ⟨h1, _⟩
    · exact h.ne k h1
    · omega⟩
theorem MB.ok (h : MB W1 w G M m P mq N X) : m.ok := h.mis.at'.ok
end
def QP.setM (P : QP) (v : Value) : QP := { P with m := v }
def QP.setL (P : QP) (v : Value) : QP := { P with l := v }
def QP.setT (P : QP) (v : Value) : QP := { P with t := v }
def QP.setS (P : QP) (v : Value) : QP := { P with s := v }
def QP.setC (P : QP) (v : Value) : QP := { P with c := v }
def QP.setO (P : QP) (v : Value) : QP := { P with o := v }
theorem QP.has_m {P : QP} {v : Value} {k : Nat} (h : (P.setM v).has k) : P.has k ∨ v.ownBlock = some k := by
  rcases h with h | h | h | h | h | h
  · exact .inl (.inl h)
  · exact .inr h
  · exact .inl (.inr (.inr (.inl h)))
  · exact .inl (.inr (.inr (.inr (.inl h))))
  · exact .inl (.inr (.inr (.inr (.inr (.inl h)))))
  · exact .inl (.inr (.inr (.inr (.inr (.inr h)))))
theorem QP.has_l {P : QP} {v : Value} {k : Nat} (h : (P.setL v).has k) : P.has k ∨ v.ownBlock = some k := by
  rcases h with h | h | h | h | h | h
  · exact .inr h
  · exact .inl (.inr (.inl h))
  · exact .inl (.inr (.inr (.inl h)))
  · exact .inl (.inr (.inr (.inr (.inl h))))
  · exact .inl (.inr (.inr (.inr (.inr (.inl h)))))
  · exact .inl (.inr (.inr (.inr (.inr (.inr h)))))
theorem QP.has_t {P : QP} {v : Value} {k : Nat} (h : (P.setT v).has k) : P.has k ∨ v.ownBlock = some k := by
  rcases h with h | h | h | h | h | h
  · exact .inl (.inl h)
  · exact .inl (.inr (.inl h))
  · exact .inr h
  · exact .inl (.inr (.inr (.inr (.inl h))))
  · exact .inl (.inr (.inr (.inr (.inr (.inl h)))))
  · exact .inl (.inr (.inr (.inr (.inr (.inr h)))))
theorem QP.has_s {P : QP} {v : Value} {k : Nat} (h : (P.setS v).has k) : P.has k ∨ v.ownBlock = some k := by
  rcases h with h | h | h | h | h | h
  · exact .inl (.inl h)
  · exact .inl (.inr (.inl h))
  · exact .inl (.inr (.inr (.inl h)))
  · exact .inr h
  · exact .inl (.inr (.inr (.inr (.inr (.inl h)))))
  · exact .inl (.inr (.inr (.inr (.inr (.inr h)))))
theorem QP.has_c {P : QP} {v : Value} {k : Nat} (h : (P.setC v).has k) : P.has k ∨ v.ownBlock = some k := by
  rcases h with h | h | h | h | h | h
  · exact .inl (.inl h)
  · exact .inl (.inr (.inl h))
  · exact .inl (.inr (.inr (.inl h)))
  · exact .inl (.inr (.inr (.inr (.inl h))))
  · exact .inr h
  · exact .inl (.inr (.inr (.inr (.inr (.inr h)))))
theorem QP.has_o {P : QP} {v : Value} {k : Nat} (h : (P.setO v).has k) : P.has k ∨ v.ownBlock = some k := by
  rcases h with h | h | h | h | h | h
  · exact .inl (.inl h)
  · exact .inl (.inr (.inl h))
  · exact .inl (.inr (.inr (.inl h)))
  · exact .inl (.inr (.inr (.inr (.inl h))))
  · exact .inl (.inr (.inr (.inr (.inr (.inl h)))))
  · exact .inr h
section
variable {w : World} {N : Nat} {P : QP} {m : Mx}
theorem QVal.setM (h : QVal w N P m) {g cap : Nat} {d : List Int} (hr : RefAt w 0 g cap d) (hok : ({ m with mem := d } : Mx).ok) : QVal w N (P.setM (.slice (some ⟨g, 0, none⟩) d.length cap)) { m with mem := d } :=
  ⟨hok, h.log, ⟨g, cap, rfl, hr⟩, h.t, h.s, h.c, h.o⟩
theorem QVal.setL (h : QVal w N P m) {v : Value} {f : Fx} {N' : Nat} (hl : ∃ L, LogIn w v L ∧ LogOf L f ∧ L.length ≤ N') (hok : ({ m with f := f } : Mx).ok) : QVal w N' (P.setL v) { m with f := f } :=
  ⟨hok, hl, h.mem, h.t, h.s, h.c, h.o⟩
theorem QVal.setC (h : QVal w N P m) {v : Value} {l : List Int} (hl : MChAt w v l) (hok : ({ m with ch := l } : Mx).ok) : QVal w N (P.setC v) { m with ch := l } :=
  ⟨hok, h.log, h.mem, h.t, h.s, hl, h.o⟩
theorem QVal.setO (h : QVal w N P m) {v : Value} {l : List Int} (hl : MChAt w v l) (hok : ({ m with out := l } : Mx).ok) : QVal w N (P.setO v) { m with out := l } :=
  ⟨hok, h.log, h.mem, h.t, h.s, h.c, hl⟩
/-- Cells alone. -/
theorem QVal.cells {m' : Mx} (h : QVal w N P m) (hok : m'.ok) (hf : m'.f = m.f) (hm : m'.mem = m.mem) (ht : m'.tpc = m.tpc) (hs : m'.tpsr = m.tpsr) (hc : m'.ch = m.ch) (ho : m'.out = m.out) : QVal w N P m' := by
  obtain ⟨h1, h2, h3, h4, h5, h6, h7⟩ := h
  exact ⟨hok, by rw [hf]; exact h2, by rw [hm]; exact h3, by rw [ht]; exact h4, by rw [hs]; exact h5, by rw [hc]; exact h6, by rw [ho]; exact h7⟩
end
theorem WordsIn.off {w w' : World} {v : Value} {l : List Int} (h : WordsIn w v l) (hb : Below w.heap.size w w') (S : Nat → Prop) (hS : ∀ k, S k → w.heap.size ≤ k) : U32s S w' v l := by
  obtain ⟨⟨h1, p, c, rfl, h2⟩, h3, h4⟩ := h
  refine ⟨h1, p, c, rfl, fun h0 => ?_⟩
  obtain ⟨b, o, rfl, h5, h6, h7⟩ := h2 h0
  exact ⟨b, o, rfl, fun hs => absurd (hS b hs) (by omega), Nat.lt_of_lt_of_le h6 hb.size, fun k hk => (hb.cell (p := ⟨b, o + k, none⟩) h6).trans (h7 k hk)⟩
theorem WordsIn.reads {w w' : World} {v : Value} {l : List Int} (h : WordsIn w v l) (hb : Below w.heap.size w w') : Reads32 w' v l := (h.off hb (fun _ => False) (fun _ => False.elim)).reads h.2.1
theorem WordsIn.shape {w : World} {v : Value} {l : List Int} (h : WordsIn w v l) : ∃ p c, v = .slice p l.length c := by
  obtain ⟨_, p, c, e, _⟩ := h.1; exact ⟨p, c, e⟩
/-- The registers that are set, so many. -/
def regsF (f : Fx) (l : List Rg) : Nat → Fx
  | 0 => f
  | k + 1 => match l[k]? with
    | some x => setV (regsF f l k) x.win x.bank x.reg x.w
    | none => regsF f l k
theorem regsF_nw (f : Fx) (l : List Rg) (k : Nat) : (regsF f l k).nw = f.nw := by
  induction k with
  | zero => rfl
  | succ k ih => unfold regsF; split <;> simp [setV_nw, ih]
def made2 (x : StartX) : Mx := { { newM x.nw.toNat x.size.toNat with mem := putV (newM x.nw.toNat x.size.toNat).mem 0 x.words } with pc := x.pc }
def made4 (x : StartX) : Mx := swimM (spsrM (made2 x) x.q) x.wim
def made5 (x : StartX) (k : Nat) : Mx := { made4 x with f := regsF (made4 x).f x.regs k }
/-- The machine of a start. -/
def madeM (x : StartX) : Mx := { made5 x x.regs.length with ch := x.ch }
/-- A start that is looked at, and of which there is a machine. -/
def greatP (x : StartX) : Prop := x.nw > 8 ∨ x.size > 1200 ∨ x.words.length > 300 ∨ x.regs.length > 60 ∨ x.ch.length > 40
instance (x : StartX) : Decidable (greatP x) := by unfold greatP; infer_instance
def mayP6 (x : StartX) : Prop := winP x.nw ∧ ¬ (x.size < 0 ∨ 4194304 < x.size ∨ x.size % 4 ≠ 0)
instance (x : StartX) : Decidable (mayP6 x) := by unfold mayP6; infer_instance
end Go.Proofs.YtgdebchbdmogcaaGreatDoor
/- The walks of muntinlaw06.great, and of muntinref06.New where there is no machine. -/
namespace Go.Proofs.YtgdebchbdmogcaaGreatDoor
open Go.RowKit
set_option linter.unusedVariables false
set_option linter.unusedSimpArgs false
theorem qZ_one : qZ.toArray.all (·.oneCell') = true := by unfold qZ; simp [Value.oneCell']
set_option maxRecDepth 100000 in
set_option maxHeartbeats 4000000 in
theorem great_any (w : World) (x : StartX) (v : Value) (h : StartIn w v x) :
    Calls Tryz.prog 4 #[v] w fun e w' => e = .returned (.bool (decide (greatP x))) ∧ Below w.heap.size w w' := by
  obtain ⟨vw, vr, vc, rfl, hw, hr, hc⟩ := h.rows
  obtain ⟨-, pw, cw, rfl, -⟩ := hw.1
  obtain ⟨-, pr, cr, br, or', rfl, -⟩ := hr
  obtain ⟨-, pc, cc, rfl, -⟩ := hc.1
  have hb : Below w.heap.size w (w.alloc (.cells (startC x.nw x.size x.pc x.q x.wim (.slice pw x.words.length cw) (.slice pr x.regs.length cr) (.slice pc x.ch.length cc)).toArray 28)) := (Below.refl _ _).alloc (Nat.le_refl _) _
  have HB := mhid hb
  have HG := mhid (show greatP x ↔ (x.nw > 8 ∨ x.size > 1200 ∨ x.words.length > 300 ∨ x.regs.length > 60 ∨ x.ch.length > 40) from Iff.rfl)
  clear h hb hw hc
  unfold startC at HB ⊢
  by_cases h1 : x.nw > 8
  · have e : decide (greatP x) = true := decide_eq_true (HG.out.2 (by omega))
    rw [e]
    go_enter Tryz.func4, Tryz.ntmps4
    go_wp2_with fail
    go_ret
    exact ⟨rfl, HB.out⟩
  by_cases h2 : x.size > 1200
  · have e : decide (greatP x) = true := decide_eq_true (HG.out.2 (by omega))
    rw [e]
    go_enter Tryz.func4, Tryz.ntmps4
    go_wp2_with fail
    go_ret
    exact ⟨rfl, HB.out⟩
  by_cases h3 : (x.words.length : Int) > 300
  · have e : decide (greatP x) = true := decide_eq_true (HG.out.2 (by omega))
    rw [e]
    go_enter Tryz.func4, Tryz.ntmps4
    go_wp2_with fail
    go_ret
    exact ⟨rfl, HB.out⟩
  by_cases h4 : (x.regs.length : Int) > 60
  · have e : decide (greatP x) = true := decide_eq_true (HG.out.2 (by omega))
    rw [e]
    go_enter Tryz.func4, Tryz.ntmps4
    go_wp2_with fail
    go_ret
    exact ⟨rfl, HB.out⟩
  by_cases h5 : (x.ch.length : Int) > 40
  · have e : decide (greatP x) = true := decide_eq_true (HG.out.2 (by omega))
    rw [e]
    go_enter Tryz.func4, Tryz.ntmps4
    go_wp2_with fail
    go_ret
    exact ⟨rfl, HB.out⟩
  · have e : decide (greatP x) = false := decide_eq_false (fun hh => by have := HG.out.1 hh; omega)
    rw [e]
    go_enter Tryz.func4, Tryz.ntmps4
    go_wp2_with fail
    go_ret
    exact ⟨rfl, HB.out⟩
set_option maxRecDepth 100000 in
set_option maxHeartbeats 4000000 in
theorem rq_new_err (nw size : Int) (h : ¬ winP nw ∨ (winP nw ∧ (size < 0 ∨ 4194304 < size ∨ size % 4 ≠ 0))) (w : World) :
    Calls Tryz.prog 26 #[.int .i64 nw, .int .i64 size] w fun e w' => e = .returned (.tuple #[.agg qZ.toArray, .int .i64 2]) ∧ Below w.heap.size w w' := by
  have HB := mhid (show Below w.heap.size w (w.alloc (.cells qZ.toArray 39)) from (Below.refl _ _).alloc (Nat.le_refl _) _)
  have HR := mhid (show ARow (w.alloc (.cells qZ.toArray 39)) w.heap.size 39 qZ from ARow.fresh w _ qZ.toArray)
  by_cases hw : winP nw
  · have hs : decide (0 ≤ size ∧ size ≤ 4194304 ∧ size % 4 = 0) = false := decide_eq_false (by rcases h with h | h; exact absurd hw h; omega)
    obtain ⟨n, rfl⟩ := Int.eq_ofNat_of_zero_le (show 0 ≤ nw from by unfold winP at hw; omega)
    have HF := mhid (fun w' => rf_new_ok n (by unfold winP at hw; omega) (by unfold winP at hw; omega) w')
    have HM := mhid (fun w' => mrmay_any size w')
    have HS := mhid hs
    clear h hw hs
    go_enter Tryz.func26, Tryz.ntmps26
    go_wp2_with fail
    rw [show w.alloc (.cells #[.int .i64 0, .int .i64 0, .slice none 0 0, .slice none 0 0, .int .u32 0, .int .u8 0, .int .u8 0, .int .u8 0, .int .u8 0, .int .u32 0, .slice none 0 0, .slice none 0 0, .slice none 0 0, .slice none 0 0, .int .u8 0, .int .u32 0] 39) = w.alloc (.cells qZ.toArray 39) from rfl]
    generalize w.alloc (.cells qZ.toArray 39) = w1 at *
    refine (HF.out w1).mono ?_
    rintro e w2 ⟨rfl, hb2⟩
    have HR := mhid (HR.out.below hb2)
    have HB := mhid (HB.out.trans (hb2.mono HB.out.size))
    clear hb2
    go_wp2_with fail
    refine (HM.out _).mono ?_
    rintro e w' ⟨rfl, rfl⟩
    rw [HS.out]
    have HR := mhid (HR.out.alloc (.cells #[.int .i64 n, .slice none 0 0] 35))
    have HB := mhid (HB.out.alloc HB.out.size (.cells #[.int .i64 n, .slice none 0 0] 35))
    generalize w2.alloc (.cells #[.int .i64 n, .slice none 0 0] 35) = W at *
    go_wp2_with (refine wpList_store_row rfl 39 (.tmp 4) (.tmp 20) rfl w.heap.size qZ.toArray rfl rfl 39 qZ.toArray HR.out q_size rfl qZ_one ?_)
    have hS : ARow (W.setRow w.heap.size qZ.toArray) w.heap.size 39 qZ := HR.out.setRow _
    have hbel : Below w.heap.size w (W.setRow w.heap.size qZ.toArray) := below_setRow HB.out (Nat.le_refl _) _
    exact bodyPost_ret (results_row_slot (P := Tryz.prog) Tryz.results26 _ _ w.heap.size _ _ (0, 0) _ _ rfl rfl hS Tryz.underlying39 rfl q_size) rfl ⟨rfl, hbel⟩
  · have HF := mhid (fun w' => rf_new_err nw hw w')
    clear h hw
    go_enter Tryz.func26, Tryz.ntmps26
    go_wp2_with fail
    rw [show w.alloc (.cells #[.int .i64 0, .int .i64 0, .slice none 0 0, .slice none 0 0, .int .u32 0, .int .u8 0, .int .u8 0, .int .u8 0, .int .u8 0, .int .u32 0, .slice none 0 0, .slice none 0 0, .slice none 0 0, .slice none 0 0, .int .u8 0, .int .u32 0] 39) = w.alloc (.cells qZ.toArray 39) from rfl]
    generalize w.alloc (.cells qZ.toArray 39) = w1 at *
    refine (HF.out w1).mono ?_
    rintro e w2 ⟨rfl, hb2⟩
    have HR := mhid (HR.out.below hb2)
    have HB := mhid (HB.out.trans (hb2.mono HB.out.size))
    clear hb2
    have HR := mhid (HR.out.alloc (.cells #[.int .i64 0, .slice none 0 0] 35))
    have HB := mhid (HB.out.alloc HB.out.size (.cells #[.int .i64 0, .slice none 0 0] 35))
    go_wp2_with (refine wpList_store_row rfl 39 (.tmp 4) (.tmp 20) rfl w.heap.size qZ.toArray rfl rfl 39 qZ.toArray HR.out q_size rfl qZ_one ?_)
    generalize w2.alloc (.cells #[.int .i64 0, .slice none 0 0] 35) = W at *
    have hS : ARow (W.setRow w.heap.size qZ.toArray) w.heap.size 39 qZ := HR.out.setRow _
    have hbel : Below w.heap.size w (W.setRow w.heap.size qZ.toArray) := below_setRow HB.out (Nat.le_refl _) _
    exact bodyPost_ret (results_row_slot (P := Tryz.prog) Tryz.results26 _ _ w.heap.size _ _ (0, 0) _ _ rfl rfl hS Tryz.underlying39 rfl q_size) rfl ⟨rfl, hbel⟩
end Go.Proofs.YtgdebchbdmogcaaGreatDoor
