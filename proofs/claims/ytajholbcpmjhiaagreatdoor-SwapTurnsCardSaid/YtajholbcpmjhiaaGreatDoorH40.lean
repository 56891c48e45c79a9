/- Several texts in one: MemRef, MemRefPut, MemRefRow, Ref8. -/
import Derived.Test.YtajholbcpmjhiaaGreatDoorH39
set_option linter.unusedVariables false
set_option linter.unusedSimpArgs false
/- The walks of the document's answer for the memory (muntinref05). -/
namespace Go.Proofs.YtajholbcpmjhiaaGreatDoor
open Go.RowKit
structure RefAt (w : World) (B g cap : Nat) (d : List Int) : Prop where
  own : w.ownsRow B 5 1 (.slice (some ⟨g, 0, none⟩) d.length cap) d.length (u8s d)
  bytes : Bytes d
  len : d.length ≤ 4194304
theorem RefAt.row {w : World} {B g cap : Nat} {d : List Int} (h : RefAt w B g cap d) : ∃ cur, B ≤ g ∧ w.heap[g]? = some (.cells cur 5 (0, 0)) ∧ d.length ≤ cap ∧ cap ≤ maxLen ∧ cur.size = cap ∧ cur.toList.take d.length = u8s d := by
  rcases h.own.2 with ⟨h1, _⟩ | ⟨g', cap', cur, hv, hg, hh, hc, hm, hs, ht⟩
  · cases h1
  · cases hv
    exact ⟨cur, hg, hh, hc, hm, by omega, by rw [← ht, Nat.mul_one]⟩
theorem RefAt.mk' {w : World} {B g cap : Nat} {d : List Int} {cur : Array Value} (hb : Bytes d) (hl : d.length ≤ 4194304) (hg : B ≤ g) (hh : w.heap[g]? = some (.cells cur 5 (0, 0))) (hc : d.length ≤ cap) (hm : cap ≤ maxLen) (hs : cur.size = cap) (ht : cur.toList.take d.length = u8s d) : RefAt w B g cap d :=
  ⟨⟨by simp [u8s], .inr ⟨g, cap, cur, rfl, hg, hh, hc, hm, by omega, by rw [Nat.mul_one]; exact ht⟩⟩, hb, hl⟩
theorem RefAt.keep {S : Nat → Prop} {a b : World} {B g cap : Nat} {d : List Int} (h : RefAt a B g cap d) (o : Only S a b) (hg : ¬ S g) : RefAt b B g cap d := by
  obtain ⟨cur, h1, h2, h3, h4, h5, h6⟩ := h.row
  exact RefAt.mk' h.bytes h.len h1 (o.obj h2 hg) h3 h4 h5 h6
theorem RefAt.lt {w : World} {B g cap : Nat} {d : List Int} (h : RefAt w B g cap d) : B ≤ g ∧ g < w.heap.size := by
  obtain ⟨cur, h1, h2, _⟩ := h.row
  exact ⟨h1, lt_of_block h2⟩
theorem RefAt.base {w : World} {B B' g cap : Nat} {d : List Int} (h : RefAt w B g cap d) (hB : B' ≤ g) : RefAt w B' g cap d := by
  obtain ⟨cur, h1, h2, h3, h4, h5, h6⟩ := h.row
  exact RefAt.mk' h.bytes h.len hB h2 h3 h4 h5 h6
theorem RefAt.byte {w : World} {B g cap : Nat} {d : List Int} (h : RefAt w B g cap d) {i : Nat} (hi : i < d.length) : w.cell? ⟨g, i, none⟩ = some (.int .u8 (d.getD i 0)) := by
  obtain ⟨cur, h1, h2, h3, h4, h5, h6⟩ := h.row
  rw [cell_of_obj h2]
  have e : cur[i]? = (cur.toList.take d.length)[i]? := by rw [List.getElem?_take_of_lt hi]; simp
  rw [e, h6]; simp [u8s, hi]
theorem RefAt.free {w : World} {B g cap : Nat} {d : List Int} (h : RefAt w B g cap d) (i : Nat) : w.frozen? ⟨g, i, none⟩ = false := by
  obtain ⟨cur, h1, h2, _⟩ := h.row
  exact free_of_obj h2
theorem RefAt.set {w : World} {B g cap : Nat} {d : List Int} (h : RefAt w B g cap d) {i : Nat} (hi : i < d.length) {x : Int} (hx : 0 ≤ x ∧ x < 256) : RefAt (w.setCell ⟨g, i, none⟩ (.int .u8 x)) B g cap (d.set i x) := by
  obtain ⟨cur, h1, h2, h3, h4, h5, h6⟩ := h.row
  refine RefAt.mk' (h.bytes.set i hx) (by simpa using h.len) h1 (obj_setCell h2 _) (by simpa using h3) h4 (by simpa using h5) ?_
  rw [List.length_set, Array.toList_setIfInBounds, List.take_set, h6]
  simp [u8s, List.map_set]
theorem RefAt.news {w : World} {B g cap : Nat} {d : List Int} (h : RefAt w B g cap d) : ∀ j u, (u8s d)[j]? = some u → w.cell? ((⟨g, 0, none⟩ : Addr).add j) = some u := by
  intro j u hj
  have hlt : j < d.length := by
    have := (List.getElem?_eq_some_iff.1 hj).1; simpa [u8s] using this
  have hb := h.byte hlt
  rw [show (⟨g, 0, none⟩ : Addr).add j = ⟨g, j, none⟩ from by unfold Addr.add; split <;> simp [*]]
  rw [hb, ← hj]
  simp [u8s, hlt]
set_option maxHeartbeats 400000 in
theorem rthere_any (p : Option Addr) (n c : Nat) (hn : n ≤ 4194304) (a many : Int) (ha : 0 ≤ a) (ha2 : a < 4294967296) (w : World) :
    Calls Tryz.prog 149 #[.slice p n c, .int .u32 a, .int .i64 many] w fun e w' => e = .returned (.int .i64 (spanE n a 1 many)) ∧ w = w' := by
  by_cases h1 : many ≠ 1 ∧ many ≠ 4
  · have e0 : spanE n a 1 many = 2 := if_pos (.inr h1)
    have E := mhid e0
    have h2 : (many != 1) = true := by simpa using h1.1
    have h3 : (many != 4) = true := by simpa using h1.2
    clear e0 h1
    go_enter Tryz.func149, Tryz.ntmps149
    go_wp2
    go_ret
    exact ⟨mret_i E.out.symm, rfl⟩
  · have hm : many = 1 ∨ many = 4 := by omega
    clear h1
    rcases hm with rfl | rfl
    · by_cases h2 : (n : Int) < a + 1
      · have E := mhid (show spanE n a 1 1 = 50 by unfold spanE; rw [if_neg (by omega), if_neg (by omega), if_pos (by omega)])
        go_enter Tryz.func149, Tryz.ntmps149
        go_wp2
        go_ret
        exact ⟨mret_i E.out.symm, rfl⟩
      · have E := mhid (show spanE n a 1 1 = 0 by unfold spanE; rw [if_neg (by omega), if_neg (by omega), if_neg (by omega)])
        go_enter Tryz.func149, Tryz.ntmps149
        go_wp2
        go_ret
        exact ⟨mret_i E.out.symm, rfl⟩
    · by_cases h4 : a % 4 = 0
      · by_cases h2 : (n : Int) < a + 4
        · have E := mhid (show spanE n a 1 4 = 50 by unfold spanE; rw [if_neg (by omega), if_neg (by omega), if_pos (by omega)])
          go_enter Tryz.func149, Tryz.ntmps149
          go_wp2
          go_ret
          exact ⟨mret_i E.out.symm, rfl⟩
        · have E := mhid (show spanE n a 1 4 = 0 by unfold spanE; rw [if_neg (by omega), if_neg (by omega), if_neg (by omega)])
          go_enter Tryz.func149, Tryz.ntmps149
          go_wp2
          go_ret
          exact ⟨mret_i E.out.symm, rfl⟩
      · have E := mhid (show spanE n a 1 4 = 51 by unfold spanE; rw [if_neg (by omega), if_pos (by omega)])
        go_enter Tryz.func149, Tryz.ntmps149
        go_wp2
        go_ret
        exact ⟨mret_i E.out.symm, rfl⟩
set_option maxHeartbeats 400000 in
theorem rspan_any (p : Option Addr) (n c : Nat) (hn : n ≤ 4194304) (a many : Int) (ha : 0 ≤ a) (ha2 : a < 4294967296) (hm2 : many ≤ 9223372036854775807) (w : World) :
    Calls Tryz.prog 93 #[.slice p n c, .int .u32 a, .int .i64 many] w fun e w' => e = .returned (.int .i64 (spanE n a many 4)) ∧ w = w' := by
  by_cases h1 : many < 0
  · have E := mhid (show spanE n a many 4 = 2 from if_pos (.inl h1))
    go_enter Tryz.func93, Tryz.ntmps93
    go_wp2
    go_ret
    exact ⟨mret_i E.out.symm, rfl⟩
  · by_cases h4 : a % 4 = 0
    · by_cases h2 : (n : Int) < a
      · have hd : decide ((n : Int) < a) = true := by simpa using h2
        have E := mhid (show spanE n a many 4 = 50 by unfold spanE; rw [if_neg (by omega), if_neg (by omega), if_pos (by omega)])
        go_enter Tryz.func93, Tryz.ntmps93
        go_wp2
        go_ret
        exact ⟨mret_i E.out.symm, rfl⟩
      · have hd : decide ((n : Int) < a) = false := by simpa using h2
        by_cases h3 : ((n : Int) - a) / 4 < many
        · have E := mhid (show spanE n a many 4 = 50 by unfold spanE; rw [if_neg (by omega), if_neg (by omega), if_pos (by omega)])
          go_enter Tryz.func93, Tryz.ntmps93
          go_wp2
          go_ret
          exact ⟨mret_i E.out.symm, rfl⟩
        · have E := mhid (show spanE n a many 4 = 0 by unfold spanE; rw [if_neg (by omega), if_neg (by omega), if_neg (by omega)])
          go_enter Tryz.func93, Tryz.ntmps93
          go_wp2
          go_ret
          exact ⟨mret_i E.out.symm, rfl⟩
    · have E := mhid (show spanE n a many 4 = 51 by unfold spanE; rw [if_neg (by omega), if_pos (by omega)])
      go_enter Tryz.func93, Tryz.ntmps93
      go_wp2
      go_ret
      exact ⟨mret_i E.out.symm, rfl⟩
set_option maxHeartbeats 1000000 in
theorem rload_any (w : World) (B g cap : Nat) (d : List Int) (h : RefAt w B g cap d) (a many : Int) (ha : 0 ≤ a) (ha2 : a < 4294967296) :
    Calls Tryz.prog 94 #[.slice (some ⟨g, 0, none⟩) d.length cap, .int .u32 a, .int .i64 many] w fun e w' => e = .returned (.tuple #[.int .u32 (loadV d a many), .int .i64 (spanE d.length a 1 many)]) ∧ w = w' := by
  have ht := rthere_any (some ⟨g, 0, none⟩) d.length cap h.len a many ha ha2 w
  have HT := mhid ht
  have H := mhid h
  clear ht h
  by_cases he : spanE d.length a 1 many = 0
  · obtain ⟨_, h4, _, h5⟩ := spanE_ok he ha
    have E := mhid he
    have hlen := H.out.len
    obtain ⟨A, rfl⟩ := Int.eq_ofNat_of_zero_le ha
    obtain ⟨M, rfl⟩ : ∃ M : Nat, many = (M : Int) := ⟨many.toNat, by omega⟩
    have hM : M = 1 ∨ M = 4 := by omega
    have hv : loadV d A M = beS d A M := by
      unfold loadV; rw [if_pos he]
      rcases hM with rfl | rfl
      · exact (beS_one d A).symm
      · exact (beS_four d A).symm
    have HV := mhid hv
    have hM4 : M ≤ 4 := by omega
    have hr : A + M ≤ d.length := by rcases hM with rfl | rfl <;> omega
    clear he hv hM h4 h5
    go_enter Tryz.func94, Tryz.ntmps94
    go_wp2_with fail
    refine HT.out.mono ?_
    rw [E.out]
    rintro e w' ⟨rfl, rfl⟩
    clear HT
    go_wp2_with fail
    go_loop [9, 10] (fun x i => ∃ k : Nat, k ≤ M ∧ i = .int .i64 k ∧ x = .int .u32 (beS d A k)) (fun _ i => M - (intOf i).toNat)
    case atStart => exact ⟨0, Nat.zero_le _, rfl, rfl⟩
    case round =>
      obtain ⟨k, hk, rfl, rfl⟩ := hrel
      by_cases hlt : k < M
      · have hkm : (k : Int) < M := by omega
        have hcell := H.out.byte (i := A + k) (by omega)
        have hb := beS_bd H.out.bytes A k (by omega)
        have hb3 := hb.2.2 (by omega)
        have hx := H.out.bytes.at (A + k)
        have hsu : beS d A (k + 1) = beS d A k * 256 + d.getD (A + k) 0 := rfl
        have SU := mhid hsu
        clear hsu
        generalize d.getD (A + k) 0 = y at hcell hx SU
        generalize beS d A k = z at hb hb3 SU ⊢
        go_wp2_with fail
        exact ⟨⟨k + 1, by omega, by go_num, by rw [SU.out]; congr 1; omega⟩, by simp [intOf] <;> omega⟩
      · obtain rfl : k = M := by omega
        go_wp2_with fail
        go_ret2
        exact ⟨mret_ii HV.out.symm E.out.symm, rfl⟩
  · have E := mhid (show loadV d a many = 0 from if_neg he)
    have he2 : (spanE d.length a 1 many != 0) = true := by simpa using he
    clear he
    go_enter Tryz.func94, Tryz.ntmps94
    go_wp2_with fail
    refine HT.out.mono ?_
    generalize hq : spanE d.length a 1 many = q at he2 ⊢
    have HQ := mhid hq
    clear hq
    rintro e w' ⟨rfl, rfl⟩
    clear HT
    go_wp2_with fail
    go_ret2
    exact ⟨mret_ii E.out.symm HQ.out.symm, rfl⟩
end Go.Proofs.YtajholbcpmjhiaaGreatDoor
/- The walks of muntinref05.Store, Put, Words and of muntinlaw05.same. -/
namespace Go.Proofs.YtajholbcpmjhiaaGreatDoor
open Go.RowKit
def RGives (B g n : Nat) (err : Int) (d2 : List Int) (w : World) (e : Ending) (w' : World) : Prop :=
  ∃ g' cap', e = .returned (.tuple #[.slice (some ⟨g', 0, none⟩) n cap', .int .i64 err]) ∧ RefAt w' B g' cap' d2 ∧ Below w.heap.size w w' ∧ (g' = g ∨ w.heap.size ≤ g')
theorem mret_si {v : Value} {a b : Int} (h : a = b) : Ending.returned (.tuple #[v, .int .i64 a]) = .returned (.tuple #[v, .int .i64 b]) := by rw [h]
def setR (d : List Int) (p : Nat) (x : Int) : Nat → List Int
  | 0 => d
  | j + 1 => (setR d p x j).set (p - j) (x / 256 ^ j % 256)
theorem setR_len (d : List Int) (p : Nat) (x : Int) (j : Nat) : (setR d p x j).length = d.length := by
  induction j with
  | zero => rfl
  | succ j ih => simp [setR, ih]
theorem setR_one (d : List Int) (a : Nat) (x : Int) : setR d a x 1 = storeS d a 1 x := by simp [setR, storeS]
theorem setR_four (d : List Int) (a : Nat) (x : Int) : setR d (a + 3) x 4 = storeS d a 4 x := by
  simp [setR, storeS]
theorem div_bd {x : Int} (hx : 0 ≤ x) (hx2 : x < 4294967296) (j : Nat) : 0 ≤ x / 256 ^ j ∧ x / 256 ^ j < 4294967296 :=
  ⟨Int.ediv_nonneg hx (Int.le_of_lt (Int.pow_pos (by decide))), Int.lt_of_le_of_lt (Int.ediv_le_self _ hx) hx2⟩
theorem div_succ (x : Int) (j : Nat) : x / 256 ^ j / 256 = x / 256 ^ (j + 1) := by
  rw [Int.pow_succ, Int.ediv_ediv_of_nonneg (Int.le_of_lt (Int.pow_pos (by decide)))]
set_option maxHeartbeats 1000000 in
set_option maxRecDepth 4000 in
theorem rstore_any (w : World) (B g cap : Nat) (d : List Int) (h : RefAt w B g cap d) (a many : Int) (ha : 0 ≤ a) (ha2 : a < 4294967296) (x : Int) (hx : 0 ≤ x) (hx2 : x < 4294967296) :
    Calls Tryz.prog 130 #[.slice (some ⟨g, 0, none⟩) d.length cap, .int .u32 a, .int .i64 many, .int .u32 x] w (RGives B g d.length (spanE d.length a 1 many) (storeV d a many x) w) := by
  have ht := rthere_any (some ⟨g, 0, none⟩) d.length cap h.len a many ha ha2 w
  have HT := mhid ht
  have H := mhid h
  clear ht h
  by_cases he : spanE d.length a 1 many = 0
  · obtain ⟨_, h4, _, h5⟩ := spanE_ok he ha
    have E := mhid he
    have hlen := H.out.len
    obtain ⟨i0, hi, hz0, hz1, hz2⟩ := info_parts info8
    have hlt := H.out.lt
    have h1 : RefAt (w.alloc (.cells #[] 5)) B g cap d := H.out.keep ((Only.refl (fun _ => False) w).alloc _) id
    have hown : (w.alloc (.cells #[] 5)).ownsRow w.heap.size 5 1 (.slice (some ⟨w.heap.size, 0, none⟩) 0 0) 0 [] := World.ownsRow_lit w #[] 0 (Nat.le_refl _) (by unfold maxLen; omega) rfl
    have hnews := h1.news
    have q1 : (u8s d).length = d.length * 1 := by simp [u8s]
    have q2 : 0 + d.length ≤ maxLen := by unfold maxLen; omega
    have q3 : (0 + d.length) * 1 ≤ 140737488355328 := by omega
    have q4 : w.heap.size ≤ (w.alloc (.cells #[] 5)).heap.size := by simp
    have Q1 := mhid q1
    obtain ⟨A, rfl⟩ := Int.eq_ofNat_of_zero_le ha
    obtain ⟨M, rfl⟩ : ∃ M : Nat, many = (M : Int) := ⟨many.toNat, by omega⟩
    have hM : M = 1 ∨ M = 4 := by omega
    have hv : setR d (A + M - 1) x M = storeV d A M x := by
      unfold storeV; rw [if_pos he]
      rcases hM with rfl | rfl
      · exact setR_one d A x
      · exact setR_four d A x
    have HV := mhid hv
    have hM4 : M ≤ 4 := by omega
    have hM1 : 1 ≤ M := by omega
    have hr : A + M ≤ d.length := by rcases hM with rfl | rfl <;> omega
    clear q1 he h1 hv hM h4 h5
    go_enter Tryz.func130, Tryz.ntmps130
    go_wp2_with fail
    refine HT.out.mono ?_
    rw [E.out]
    rintro e w' ⟨rfl, rfl⟩
    clear HT
    go_wp2_with (at_builtin; refine wpList_append_own _ rfl _ _ 56 rfl w.heap.size 5 i0 (.int .u8 0) 1 1 Tryz.underlying56 hi hz0 hz1 hz2 rfl (by decide) _ 0 [] rfl hown ⟨g, 0, none⟩ d.length cap (u8s d) rfl Q1.out hnews u8s_one q2 q3 q4 ?_; intro v' w1 hown1 hgrow1 hnil; have hown2 := own_tail (k := 0) hown1; obtain ⟨g2, cap2, rfl, hg2⟩ := own_some hown2 (fun e => by cases (hnil.1 e).1))
    have hb1 : Below w.heap.size w w1 := ((Below.refl _ w).alloc (Nat.le_refl _) _).grown hgrow1 q4 (fun k e => by cases e; exact Nat.le_refl _)
    have hR : RefAt w1 w.heap.size g2 cap2 d := ⟨hown2, H.out.bytes, hlen⟩
    have G1 := mhid (And.intro hb1 hR)
    clear hb1 hR hown2 hown1 hnil hgrow1 hown hnews q2 q3 q4
    go_loopw [3, 12] (fun y i wr => ∃ (j : Nat) (t : Int), j ≤ M ∧ t = (M : Int) - 1 - j ∧ i = .int .i64 t ∧ y = .int .u32 (x / 256 ^ j) ∧ RefAt wr w.heap.size g2 cap2 (setR d (A + M - 1) x j) ∧ Below w.heap.size w wr) (fun _ i _ => (intOf i + 1).toNat)
    case atStart => exact ⟨0, (M : Int) - 1, Nat.zero_le _, by omega, by go_num, by simp, G1.out.2, G1.out.1⟩
    case round =>
      obtain ⟨j, t, hj, ht, rfl, rfl, href, hbl⟩ := hrel
      by_cases hlt : j < M
      · obtain ⟨T, rfl⟩ : ∃ T : Nat, t = T := ⟨t.toNat, by omega⟩
        have hT : A + M - 1 - j = A + T := by omega
        have hdv := div_bd hx hx2 j
        have hds := div_succ x j
        have hln := setR_len d (A + M - 1) x j
        have hset : setR d (A + M - 1) x (j + 1) = (setR d (A + M - 1) x j).set (A + T) (x / 256 ^ j % 256) := by rw [← hT]; rfl
        have SE := mhid hset
        have DS := mhid hds
        clear hset hds
        generalize x / 256 ^ j = y at hdv SE DS
        have hstep := href.set (i := A + T) (by omega) (x := y % 256) (by omega)
        have hcell := href.byte (i := A + T) (by omega)
        have hfree := href.free (A + T)
        have hbl2 := hbl.setCell (p := ⟨g2, A + T, none⟩) hg2 (.int .u8 (y % 256))
        rw [← SE.out] at hstep
        have G2 := mhid (And.intro hstep hbl2)
        clear hstep hbl2 href hbl SE
        generalize (setR d (A + M - 1) x j).getD (A + T) 0 = old at hcell
        have JT := mhid (And.intro hj (And.intro ht (And.intro hT hln)))
        clear hj ht hT hln hlt
        have hTl : (A : Int) + T < d.length := by have := JT.out; omega
        go_wp2_with fail
        have J := JT.out
        exact ⟨⟨j + 1, (T : Int) - 1, by omega, by omega, rfl, by rw [DS.out], G2.out.1, G2.out.2⟩, by simp [intOf] <;> omega⟩
      · obtain rfl : j = M := by omega
        obtain rfl : t = -1 := by omega
        clear ht hj hlt hr hM1 hM4
        go_wp2_with fail
        go_ret2
        exact ⟨g2, cap2, mret_si E.out.symm, by rw [← HV.out]; exact href.base (by omega), hbl, .inr hg2⟩
  · have E := mhid (show storeV d a many x = d from if_neg he)
    have he2 : (spanE d.length a 1 many != 0) = true := by simpa using he
    clear he
    go_enter Tryz.func130, Tryz.ntmps130
    go_wp2_with fail
    refine HT.out.mono ?_
    generalize hq : spanE d.length a 1 many = q at he2 ⊢
    have HQ := mhid hq
    clear hq
    rintro e w' ⟨rfl, rfl⟩
    clear HT
    go_wp2_with fail
    go_ret2
    exact ⟨g, cap, mret_si HQ.out.symm, by rw [E.out]; exact H.out, Below.refl _ _, .inl rfl⟩
end Go.Proofs.YtajholbcpmjhiaaGreatDoor
/- The walks of muntinref05.Put, Words and of muntinlaw05.same. -/
namespace Go.Proofs.YtajholbcpmjhiaaGreatDoor
open Go.RowKit
theorem keepm {S : Nat} {a b : World} {p : Addr} {v : Value} (hb : Below S a b) (hp : p.block < S) (h : a.cell? p = some v) : b.cell? p = some v := (hb.cell hp).trans h
set_option maxHeartbeats 1000000 in
theorem mrput_any (w : World) (B g cap : Nat) (d : List Int) (h : RefAt w B g cap d) (a : Int) (ha : 0 ≤ a) (ha2 : a < 4294967296) (v : Value) (l : List Int) (hl : l.length ≤ maxLen) (hv : U32s (fun _ => False) w v l) :
    Calls Tryz.prog 70 #[.slice (some ⟨g, 0, none⟩) d.length cap, .int .u32 a, v] w (RGives B g d.length (spanE d.length a l.length 4) (putV d a l) w) := by
  unfold maxLen at hl
  have hs := rspan_any (some ⟨g, 0, none⟩) d.length cap h.len a l.length ha ha2 (by omega) w
  have HS := mhid hs
  have H := mhid h
  have hB := h.lt
  clear hs h
  obtain ⟨hw, p, c, rfl, hv⟩ := hv
  have HV := mhid hv
  clear hv
  by_cases he : spanE d.length a l.length 4 = 0
  · obtain ⟨_, _, h4, h5⟩ := spanE_ok he ha
    have HE := mhid he
    have hlen0 := H.out.len
    have h4' := h4
    clear he
    obtain ⟨A, rfl⟩ := Int.eq_ofNat_of_zero_le ha
    go_enter Tryz.func70, Tryz.ntmps70
    go_wp2_with fail
    refine HS.out.mono ?_
    rw [HE.out]
    rintro e w' ⟨rfl, rfl⟩
    clear HS
    go_wp2_with fail
    go_loopw [0, 9] (fun mm i wr => ∃ k g' cap', k ≤ l.length ∧ i = .int .i64 (k : Nat) ∧ mm = .slice (some ⟨g', 0, none⟩) d.length cap' ∧ RefAt wr B g' cap' (putS d A (l.take k)) ∧ Below w.heap.size w wr ∧ (g' = g ∨ w.heap.size ≤ g')) (fun _ i _ => l.length - (intOf i).toNat)
    case atStart => exact ⟨0, g, cap, Nat.zero_le _, rfl, rfl, H.out, Below.refl _ _, .inl rfl⟩
    case round =>
      obtain ⟨k, g', cap', hk, rfl, rfl, href, hbl, hgg⟩ := hrel
      by_cases hlt : k < l.length
      · obtain ⟨b, o, rfl, _, hb2, hc⟩ := HV.out (by omega)
        have hcell : wr.cell? ⟨b, o + k, none⟩ = some (.int .u32 (l.getD k 0)) := keepm hbl hb2 (hc k hlt)
        have hx := hw.at k
        have hlen2 := putS_len (l.take k) d A
        have e4 : spanE d.length ((A : Int) + 4 * (k : Int)) 1 4 = 0 := by unfold spanE; rw [if_neg (by omega), if_neg (by omega), if_neg (by omega)]
        have hst := rstore_any wr B g' cap' _ href ((A : Int) + 4 * (k : Int)) 4 (by omega) (by omega) (l.getD k 0) hx.1 hx.2
        rw [hlen2] at hst
        rw [e4] at hst
        rw [show storeV (putS d A (l.take k)) ((A : Int) + 4 * (k : Int)) 4 (l.getD k 0) = putS d A (l.take (k + 1)) from by rw [putS_take l d A k hlt]; unfold storeV; rw [hlen2, if_pos e4]; congr 1] at hst
        have HT := mhid hst
        have HB := mhid hbl
        clear hst hbl e4 href hlen2 hc HV
        generalize l.getD k 0 = x at hcell hx HT
        have hk4 : (k : Int) < l.length := by omega
        go_wp2_with fail
        refine HT.out.mono ?_
        rintro e w' ⟨g2, cap2, rfl, href2, hb2', hgg2⟩
        have hb3 : Below w.heap.size w w' := HB.out.trans (hb2'.mono HB.out.size)
        have hg3 : g2 = g ∨ w.heap.size ≤ g2 := by
          have := HB.out.size
          rcases hgg2 with rfl | h3
          · exact hgg
          · exact .inr (by omega)
        have G := mhid (And.intro href2 (And.intro hb3 hg3))
        clear href2 hb2' hgg2 hb3 hg3 HT HB
        go_wp2_with fail
        go_roundw
        case rel => exact ⟨k + 1, g2, cap2, by omega, by go_num, rfl, G.out.1, G.out.2.1, G.out.2.2⟩
        case measure => simp [intOf] <;> omega
      · obtain rfl : k = l.length := by omega
        go_wp2_with fail
        go_ret2
        refine ⟨g', cap', mret_si HE.out.symm, ?_, hbl, hgg⟩
        rw [show putV d (A : Int) l = putS d A l from if_pos HE.out]
        rw [List.take_length] at href
        exact href
  · have E := mhid (show putV d a l = d from if_neg he)
    have he2 : (spanE d.length a l.length 4 != 0) = true := by simpa using he
    clear he
    go_enter Tryz.func70, Tryz.ntmps70
    go_wp2_with fail
    refine HS.out.mono ?_
    generalize hq : spanE d.length a l.length 4 = q at he2 ⊢
    have HQ := mhid hq
    clear hq
    rintro e w' ⟨rfl, rfl⟩
    clear HS
    go_wp2_with fail
    go_ret2
    exact ⟨g, cap, mret_si HQ.out.symm, by rw [E.out]; exact H.out, Below.refl _ _, .inl rfl⟩
set_option maxHeartbeats 1000000 in
theorem mrwords_any (w : World) (B g cap : Nat) (d : List Int) (h : RefAt w B g cap d) (a : Int) (ha : 0 ≤ a) (ha2 : a < 4294967296) (n : Int) (hn : n ≤ 9223372036854775807) :
    Calls Tryz.prog 32 #[.slice (some ⟨g, 0, none⟩) d.length cap, .int .u32 a, .int .i64 n] w (Tells d a n w) := by
  have hs := rspan_any (some ⟨g, 0, none⟩) d.length cap h.len a n ha ha2 hn w
  have HS := mhid hs
  have H := mhid h
  have hlen := h.len
  have hB := h.lt
  clear hs h
  obtain ⟨i0, hi, hz0, hz1, hz2⟩ := info_parts info32
  by_cases he : spanE d.length a n 4 = 0
  · obtain ⟨h3, _, h4, h5⟩ := spanE_ok he ha
    have HE := mhid he
    clear he
    obtain ⟨N, rfl⟩ := Int.eq_ofNat_of_zero_le h3
    obtain ⟨A, rfl⟩ := Int.eq_ofNat_of_zero_le ha
    clear h3 hn
    go_enter Tryz.func32, Tryz.ntmps32
    go_wp2_with fail
    refine HS.out.mono ?_
    rw [HE.out]
    rintro e w' ⟨rfl, rfl⟩
    clear HS
    go_wp2_with fail
    go_loopw [9, 10] (fun v i wr => ∃ k : Nat, k ≤ N ∧ i = .int .i64 k ∧ wr.ownsRow w.heap.size 24 1 v k (u32s (wordsS d A k)) ∧ Below w.heap.size w wr) (fun _ i _ => N - (intOf i).toNat)
    case atStart => exact ⟨0, Nat.zero_le _, rfl, World.ownsRow_nil _ _ _ _, Below.refl _ _⟩
    case round =>
      obtain ⟨k, hk, rfl, hown, hbl⟩ := hrel
      by_cases hlt : k < N
      · have href : RefAt wr B g cap d := H.out.keep (Only.of_below (S := fun _ => False) hbl) id
        have q2 : k + 1 ≤ maxLen := by unfold maxLen; omega
        have q3 : (k + 1) * 4 ≤ 140737488355328 := by omega
        have q4 := hbl.size
        have q5 : w.heap.size ≤ wr.heap.size + 1 := by omega
        have hx := loadS_bd H.out.bytes (A + 4 * k) 4
        have e4 : spanE d.length ((A : Int) + 4 * (k : Int)) 1 4 = 0 := by unfold spanE; rw [if_neg (by omega), if_neg (by omega), if_neg (by omega)]
        have hwd := rload_any wr B g cap d href ((A : Int) + 4 * (k : Int)) 4 (by omega) (by omega)
        rw [show loadV d ((A : Int) + 4 * (k : Int)) 4 = loadS d (A + 4 * k) 4 from by unfold loadV; rw [if_pos e4]; congr 1] at hwd
        rw [e4] at hwd
        have hsu := wordsS_succ d A k
        have HSU := mhid hsu
        have HW := mhid hwd
        have HB := mhid hbl
        clear hsu hwd href hbl e4
        generalize loadS d (A + 4 * k) 4 = x at hx HSU HW
        have hk4 : (k : Int) < N := by omega
        go_wp2_with fail
        refine HW.out.mono ?_
        rintro e w' ⟨rfl, rfl⟩
        clear HW
        go_wp2_with (at_builtin; refine wpList_append_own _ rfl _ _ 22 rfl w.heap.size 24 i0 (.int .u32 0) 1 4 Tryz.underlying22 hi hz0 hz1 hz2 rfl (by decide) _ k (u32s (wordsS d A k)) rfl (hown.alloc _) ⟨wr.heap.size, 0, none⟩ 1 1 [.int .u32 x] rfl rfl (cell_one_new _ _ _) (by simp [Value.oneCell']) q2 q3 (by simpa using q5) ?_; intro v' w1 hown1 hgrow1 hnil)
        have hb1 : Below w.heap.size w w1 := (HB.out.alloc q4 _).grown hgrow1 (by simpa using q5) (fun r e => ((hown.alloc (.cells #[.int .u32 x] 24)).lt r e).1)
        go_roundw
        case rel => exact ⟨k + 1, by omega, by go_num, by rw [HSU.out]; simpa [u32s] using hown1, hb1⟩
        case measure => simp [intOf] <;> omega
      · obtain rfl : k = N := by omega
        go_wp2_with fail
        go_ret2
        exact ⟨_, wordsS d A k, tell_ret HE.out.symm, by rw [if_pos HE.out]; rfl, by rw [wordsS_len]; exact hown, hbl⟩
  · have E := mhid he
    have he2 : (spanE d.length a n 4 != 0) = true := by simpa using he
    clear he
    go_enter Tryz.func32, Tryz.ntmps32
    go_wp2_with fail
    refine HS.out.mono ?_
    generalize hq : spanE d.length a n 4 = q at he2 ⊢
    have HQ := mhid hq
    clear hq
    rintro e w' ⟨rfl, rfl⟩
    clear HS
    go_wp2_with fail
    go_ret2
    exact ⟨_, [], tell_ret HQ.out.symm, by rw [if_neg E.out], own_nil _ _, Below.refl _ _⟩
end Go.Proofs.YtajholbcpmjhiaaGreatDoor
/- The walks of the document's windows (muntinref08): Frame, Stored, Loaded. -/
namespace Go.Proofs.YtajholbcpmjhiaaGreatDoor
open Go.RowKit Go.Maps
structure W8 where
  f : Fx
  mem : List Int
  cwp : Int
  inv : Int
def W8.agg (q : W8) (lv : Value) (g cap : Nat) : Value := .agg #[.int .i64 q.f.nw, lv, .slice (some ⟨g, 0, none⟩) q.mem.length cap, .int .i64 q.cwp, .int .i64 q.inv]
def W8.cells (q : W8) (lv : Value) (g cap : Nat) : List Value := [.int .i64 q.f.nw, lv, .slice (some ⟨g, 0, none⟩) q.mem.length cap, .int .i64 q.cwp, .int .i64 q.inv]
structure WIn (w : World) (q : W8) (lv : Value) (L : List Sd) (g cap : Nat) : Prop where
  log : LogIn w lv L
  says : LogOf L q.f
  mem : RefAt w 0 g cap q.mem
  ok : q.f.ok
def WAt (w : World) (n : Nat) (v : Value) (q : W8) : Prop := ∃ lv L g cap, v = q.agg lv g cap ∧ WIn w q lv L g cap ∧ L.length ≤ n
theorem refat_below {w w' : World} {B g cap : Nat} {d : List Int} (h : RefAt w B g cap d) (hb : Below w.heap.size w w') : RefAt w' B g cap d := h.keep (Only.of_below (S := fun _ => False) hb) (fun h => h)
theorem WIn.keep {w w' : World} {q : W8} {lv : Value} {L : List Sd} {g cap : Nat} (h : WIn w q lv L g cap) (hb : Below w.heap.size w w') : WIn w' q lv L g cap := ⟨h.log.keep hb, h.says, refat_below h.mem hb, h.ok⟩
theorem LogIn.only {S : Nat → Prop} {w w' : World} {v : Value} {L : List Sd} (h : LogIn w v L) (o : Only S w w') (hS : ∀ k, v.ownBlock = some k → ¬ S k) : LogIn w' v L := by
  rcases h with h | ⟨g, cap, rfl, h2, h3⟩
  · exact .inl h
  · exact .inr ⟨g, cap, rfl, Nat.lt_of_lt_of_le h2 o.size, fun j u hu => (o.cell (p := ⟨g, j, none⟩) h2 (hS g rfl)).trans (h3 j u hu)⟩
theorem WIn.only {S : Nat → Prop} {w w' : World} {q : W8} {lv : Value} {L : List Sd} {g cap : Nat} (h : WIn w q lv L g cap) (o : Only S w w') (hl : ∀ k, lv.ownBlock = some k → ¬ S k) (hg : ¬ S g) : WIn w' q lv L g cap := ⟨h.log.only o hl, h.says, h.mem.keep o hg, h.ok⟩
theorem LogIn.own_lt {w : World} {v : Value} {L : List Sd} (h : LogIn w v L) {k : Nat} (hk : v.ownBlock = some k) : k < w.heap.size := by
  rcases h with ⟨rfl, _⟩ | ⟨g, cap, rfl, h2, _⟩
  · cases hk
  · have : g = k := by simpa [Value.ownBlock] using hk
    omega
def cp5 (w : World) (b : Nat) (v0 v1 v2 v3 v4 : Value) : World := ((((w.setCell ⟨b, 0, none⟩ v0).setCell ⟨b, 1, none⟩ v1).setCell ⟨b, 2, none⟩ v2).setCell ⟨b, 3, none⟩ v3).setCell ⟨b, 4, none⟩ v4
theorem cp5_only {S : Nat → Prop} (w : World) (b : Nat) (v0 v1 v2 v3 v4 : Value) (h : S b) : Only S w (cp5 w b v0 v1 v2 v3 v4) :=
  (((((Only.refl S w).setCell (p := ⟨b, 0, none⟩) h _).setCell (p := ⟨b, 1, none⟩) h _).setCell (p := ⟨b, 2, none⟩) h _).setCell (p := ⟨b, 3, none⟩) h _).setCell (p := ⟨b, 4, none⟩) h _
theorem cp5_row {w : World} {b : Nat} {t : TypeId} {x0 x1 x2 x3 x4 : Value} (h : ARow w b t [x0, x1, x2, x3, x4]) (v0 v1 v2 v3 v4 : Value) : ARow (cp5 w b v0 v1 v2 v3 v4) b t [v0, v1, v2, v3, v4] := ((((h.set 0 v0).set 1 v1).set 2 v2).set 3 v3).set 4 v4
theorem WAt.keep {w w' : World} {n : Nat} {v : Value} {q : W8} (h : WAt w n v q) (hb : Below w.heap.size w w') : WAt w' n v q := by
  obtain ⟨lv, L, g, cap, h1, h2, h3⟩ := h
  exact ⟨lv, L, g, cap, h1, h2.keep hb, h3⟩
def frame8 (q : W8) (wi : Int) : Int := getV q.f wi 0 14
def store8 (q : W8) (wi : Int) : W8 := { q with mem := putV q.mem (frame8 q wi) (winV q.f wi) }
def load8 (q : W8) (wi : Int) : W8 := { q with f := setsF q.f wi (wordsS q.mem (frame8 q wi).toNat 16) 16 }
def can8 (q : W8) (wi : Int) : Bool := decide (spanE q.mem.length (frame8 q wi) 16 4 = 0)
set_option maxRecDepth 100000 in
set_option maxHeartbeats 4000000 in
theorem r8_frame (W : World) (n : Nat) (v : Value) (q : W8) (hq : WAt W n v q) (hn : n < 1000000) (wi : Int) :
    Calls Tryz.prog 102 #[v, .int .i64 wi] W fun e w' => e = .returned (.int .u32 (frame8 q wi)) ∧ Below W.heap.size W w' := by
  obtain ⟨lv, L, g, cap, rfl, hin, hL⟩ := hq
  obtain ⟨p, c, rfl⟩ := hin.log.shape
  obtain ⟨W1, hW1⟩ : ∃ x, x = W.alloc (.cells (q.cells (.slice p L.length c) g cap).toArray 58) := ⟨_, rfl⟩
  have hbw : Below W.heap.size W W1 := by rw [hW1]; exact (Below.refl _ _).alloc (Nat.le_refl _) _
  have hB : ARow W1 W.heap.size 58 (q.cells (.slice p L.length c) g cap) := by rw [hW1]; exact ARow.fresh W _ _
  have b0 := hB.cell (k := 0) rfl
  have b1 := hB.cell (k := 1) rfl
  have HBW := mhid hbw
  have HG := mhid (fun (w' : World) (h : Below W1.heap.size W1 w') => rf_get w' q.f hin.ok (.slice p L.length c) L ((hin.keep hbw).log.keep h) (by omega) hin.says wi 0 14)
  clear hbw hB hin
  rw [hW1] at b0 b1
  unfold W8.cells at b0 b1 hW1
  unfold W8.agg
  go_enter Tryz.func102, Tryz.ntmps102
  go_wp2_with fail
  rw [← hW1]
  clear hW1 b0 b1
  refine (HG.out W1 (Below.refl _ _)).mono ?_
  rintro e W2 ⟨rfl, hb⟩
  have HBW := mhid (HBW.out.trans (hb.mono HBW.out.size))
  clear hb
  go_wp2_with fail
  go_ret
  exact ⟨rfl, HBW.out⟩
theorem u32s_of {w w' : World} {base : Nat} {v : Value} {l : List Int} (h : w.ownsRow base 24 1 v l.length (u32s l)) (hw : Words l) (hb : Below w.heap.size w w') : U32s (fun _ => False) w' v l := by
  obtain ⟨hl, p, c, rfl, h2⟩ := Reads32.of_own h
  refine ⟨hw, p, c, rfl, fun h0 => ?_⟩
  obtain ⟨b, o, rfl, h3⟩ := h2 h0
  have hlt : b < w.heap.size := World.block_lt_of_cell? _ _ (h3 0 h0)
  exact ⟨b, o, rfl, fun h => h, Nat.lt_of_lt_of_le hlt hb.size, fun k hk => (hb.cell (p := ⟨b, o + k, none⟩) hlt).trans (h3 k hk)⟩
theorem winV_words {f : Fx} (h : f.ok) (wi : Int) : Words (winV f wi) := by
  unfold winV
  split
  · intro x hx
    unfold winR at hx
    exact h.ww x (List.mem_of_mem_drop (List.mem_of_mem_take hx))
  · intro x hx; simp at hx
theorem winV_le (f : Fx) (wi : Int) : (winV f wi).length ≤ 16 := by
  unfold winV
  split
  · unfold winR; rw [List.length_take]; omega
  · simp
def own8 (v : Value) (k : Nat) : Prop := match v with
  | .agg cs => (cs.getD 1 undef).ownBlock = some k ∨ (cs.getD 2 undef).ownBlock = some k
  | _ => False
theorem own8_agg (q : W8) (lv : Value) (g cap k : Nat) : own8 (q.agg lv g cap) k ↔ lv.ownBlock = some k ∨ k = g := by
  unfold own8 W8.agg
  show lv.ownBlock = some k ∨ (Value.slice (some ⟨g, 0, none⟩) _ cap).ownBlock = some k ↔ _
  simp only [Value.ownBlock, Option.some.injEq]
  exact ⟨fun h => h.imp id (fun h => h.symm), fun h => h.imp id (fun h => h.symm)⟩
theorem WAt.own_lt {w : World} {n : Nat} {v : Value} {q : W8} (h : WAt w n v q) {k : Nat} (hk : own8 v k) : k < w.heap.size := by
  obtain ⟨lv, L, g, cap, rfl, h2, _⟩ := h
  rcases (own8_agg _ _ _ _ _).1 hk with h | rfl
  · exact h2.log.own_lt h
  · exact h2.mem.lt.2
theorem WAt.only {S : Nat → Prop} {w w' : World} {n : Nat} {v : Value} {q : W8} (h : WAt w n v q) (o : Only S w w') (hS : ∀ k, own8 v k → ¬ S k) : WAt w' n v q := by
  obtain ⟨lv, L, g, cap, rfl, h2, h3⟩ := h
  exact ⟨lv, L, g, cap, rfl, h2.only o (fun k hk => hS k ((own8_agg _ _ _ _ _).2 (.inl hk))) (hS g ((own8_agg _ _ _ _ _).2 (.inr rfl))), h3⟩
def Gives8 (W : World) (n : Nat) (v : Value) (q : W8) (b : Bool) (e : Ending) (w' : World) : Prop := ∃ v', e = .returned (.tuple #[v', .bool b]) ∧ WAt w' n v' q ∧ Below W.heap.size W w' ∧ ∀ k, own8 v' k → own8 v k ∨ W.heap.size ≤ k
set_option maxRecDepth 100000 in
set_option maxHeartbeats 4000000 in
theorem r8_stored (W : World) (n : Nat) (v : Value) (q : W8) (hq : WAt W n v q) (hn : n < 1000000) (wi : Int) (hwi : 0 ≤ wi ∧ wi < q.f.nw) :
    Calls Tryz.prog 72 #[v, .int .i64 wi] W (Gives8 W n v (store8 q wi) (can8 q wi)) := by
  obtain ⟨lv, L, g, cap, rfl, hin, hL⟩ := hq
  obtain ⟨p, c, rfl⟩ := hin.log.shape
  obtain ⟨W1, hW1⟩ : ∃ x, x = W.alloc (.cells (q.cells (.slice p L.length c) g cap).toArray 58) := ⟨_, rfl⟩
  have hbw : Below W.heap.size W W1 := by rw [hW1]; exact (Below.refl _ _).alloc (Nat.le_refl _) _
  have hB : ARow W1 W.heap.size 58 (q.cells (.slice p L.length c) g cap) := by rw [hW1]; exact ARow.fresh W _ _
  have hsz1 : W1.heap.size = W.heap.size + 1 := by rw [hW1]; simp
  have HIN := mhid (hin.keep hbw)
  have HB := mhid hB
  have HBW := mhid hbw
  have HG := mhid (fun (w' : World) (h : Below W1.heap.size W1 w') => rf_window w' q.f hin.ok (.slice p L.length c) L ((hin.keep hbw).log.keep h) (by omega) hin.says wi)
  have HG0 := mhid hin.mem.lt.2
  have HLO := mhid (fun k (hk : (Value.slice p L.length c).ownBlock = some k) => hin.log.own_lt hk)
  clear hbw hB hin
  go_enter Tryz.func72, Tryz.ntmps72
  unfold W8.cells at hW1 HB
  unfold W8.agg
  have b0 := HB.out.cell (k := 0) rfl
  have b1 := HB.out.cell (k := 1) rfl
  rw [hW1] at b0 b1
  go_wp2_with fail
  rw [← hW1]
  obtain ⟨W2, hW2⟩ : ∃ x, x = W1.alloc (.cells #[.int .i64 0, .slice none 0 0, .slice none 0 0, .int .i64 0, .int .i64 0] 58) := ⟨_, rfl⟩
  rw [← hW2]
  have hb2 : Below W1.heap.size W1 W2 := by rw [hW2]; exact (Below.refl _ _).alloc (Nat.le_refl _) _
  have hR : ARow W2 (W.heap.size + 1) 58 [.int .i64 0, .slice none 0 0, .slice none 0 0, .int .i64 0, .int .i64 0] := by rw [hW2, ← hsz1]; exact ARow.fresh W1 _ _
  have HB := mhid (HB.out.below hb2)
  have HW := HG.out W2 hb2
  have HIN := mhid (HIN.out.keep hb2)
  have HBW := mhid (HBW.out.trans (hb2.mono HBW.out.size))
  have HWN := mhid HW
  clear HW hW2 hW1 b0 b1 HG
  refine HWN.out.mono ?_
  rintro e W3 ⟨rv, rfl, hrow, hb3⟩
  have HB := mhid (HB.out.below hb3)
  have HR := mhid (hR.below hb3)
  have HSZ3 := mhid (show W.heap.size + 2 ≤ W3.heap.size from HR.out.lt)
  have HIN := mhid (HIN.out.keep hb3)
  have HBW := mhid (HBW.out.trans (hb3.mono HBW.out.size))
  have HRW := mhid hrow
  have hrr : regE q.f wi 0 0 = 0 := if_pos ⟨hwi, by omega, by omega, by omega⟩
  rw [hrr]
  obtain ⟨-, pr, cr, rfl, -⟩ := Reads32.of_own hrow
  clear hrow hb3 hb2 hR HWN hrr
  have b0 := HB.out.cell (k := 0) rfl
  have b1 := HB.out.cell (k := 1) rfl
  have b2 := HB.out.cell (k := 2) rfl
  have b3 := HB.out.cell (k := 3) rfl
  have b4 := HB.out.cell (k := 4) rfl
  have HFR := mhid (fun (w' : World) (h : Below W3.heap.size W3 w') => r8_frame w' n (q.agg (.slice p L.length c) g cap) q ⟨_, L, g, cap, rfl, HIN.out.keep h, hL⟩ hn wi)
  unfold W8.agg at HFR
  have hfb := HIN.out.ok.gV wi 0 14
  have HPU := mhid (fun (w' : World) (h : Below W3.heap.size W3 w') => mrput_any w' 0 g cap q.mem (refat_below HIN.out.mem h) (frame8 q wi) hfb.1 hfb.2 (.slice pr (winV q.f wi).length cr) (winV q.f wi) (by have := winV_le q.f wi; unfold maxLen; omega) (u32s_of HRW.out (winV_words HIN.out.ok wi) h))
  have HKS := mhid (show ∀ w', Below W3.heap.size W3 w' → w'.cell? ⟨W.heap.size, 0, none⟩ = some (.int .i64 q.f.nw) ∧ w'.cell? ⟨W.heap.size, 1, none⟩ = some (.slice p L.length c) ∧ w'.cell? ⟨W.heap.size, 2, none⟩ = some (.slice (some ⟨g, 0, none⟩) q.mem.length cap) ∧ w'.cell? ⟨W.heap.size, 3, none⟩ = some (.int .i64 q.cwp) ∧ w'.cell? ⟨W.heap.size, 4, none⟩ = some (.int .i64 q.inv) from fun w' hb => by
    have h := HB.out.below hb
    exact ⟨h.cell (k := 0) rfl, h.cell (k := 1) rfl, h.cell (k := 2) rfl, h.cell (k := 3) rfl, h.cell (k := 4) rfl⟩)
  have hbl0 := Below.refl W3.heap.size W3
  have hle0 : W3.heap.size ≤ W3.heap.size := Nat.le_refl _
  go_wp2_with fail
  go_region_held3 (fun w' => w'.cell? ⟨W.heap.size, 0, none⟩ = some (.int .i64 q.f.nw) ∧ w'.cell? ⟨W.heap.size, 1, none⟩ = some (.slice p L.length c) ∧ w'.cell? ⟨W.heap.size, 2, none⟩ = some (.slice (some ⟨g, 0, none⟩) q.mem.length cap) ∧ w'.cell? ⟨W.heap.size, 3, none⟩ = some (.int .i64 q.cwp) ∧ w'.cell? ⟨W.heap.size, 4, none⟩ = some (.int .i64 q.inv)) (first | (with_reducible exact ⟨b0, b1, b2, b3, b4⟩) | (refine HKS.out _ ?_; go_grown; done))
    (first
      | (go_at_call 102; refine (HFR.out _ (by go_grown)).mono ?_; rintro e wx ⟨rfl, hbx⟩; have hbx : Below W3.heap.size W3 wx := (Below.trans (by go_grown) (hbx.mono (by go_grown))))
      | (go_at_call 70; refine (HPU.out _ (by go_grown)).mono ?_; rintro e wy ⟨g2, cap2, rfl, href, hby, hgg⟩; have hby : Below W3.heap.size W3 wy := Below.trans hbx (hby.mono hbx.size)))
  have hwl : (winV q.f wi).length = 16 := (winV_get HIN.out.ok ⟨hwi, by omega, by omega, by omega⟩ (show 0 < 16 by omega)).2
  have HWL := mhid hwl
  have HB := mhid (HB.out.below hby)
  have HR := mhid (HR.out.below hby)
  have HIN := mhid (HIN.out.keep hby)
  have HBW := mhid (HBW.out.trans (hby.mono HBW.out.size))
  have HRF := mhid href
  have hlt2 := (href.lt).2
  have hgne : g2 = g ∨ W3.heap.size ≤ g2 := hgg.imp id (fun h => Nat.le_trans hbx.size h)
  have hglt : g < W.heap.size := HG0.out
  have hszy : W.heap.size + 2 ≤ W3.heap.size := HSZ3.out
  clear hby hbx href hgg b0 b1 b2 b3 b4 hwl HKS HFR HPU hbl0 hle0
  have b0 := HB.out.cell (k := 0) rfl
  have b1 := HB.out.cell (k := 1) rfl
  have b3 := HB.out.cell (k := 3) rfl
  have b4 := HB.out.cell (k := 4) rfl
  have bf2 := HB.out.frozen 2
  have b2 := HB.out.cell (k := 2) rfl
  have r0 := HR.out.cell (k := 0) rfl
  have rf0 := HR.out.frozen 0
  have r1 := HR.out.cell (k := 1) rfl
  have rf1 := HR.out.frozen 1
  have r2 := HR.out.cell (k := 2) rfl
  have rf2 := HR.out.frozen 2
  have r3 := HR.out.cell (k := 3) rfl
  have rf3 := HR.out.frozen 3
  have r4 := HR.out.cell (k := 4) rfl
  have rf4 := HR.out.frozen 4
  go_wp2_with fail
  have hR9 := cp5_row (HR.out.other (a := ⟨W.heap.size, 2, none⟩) (by simp) (.slice (some ⟨g2, 0, none⟩) q.mem.length cap2)) (.int .i64 q.f.nw) (.slice p L.length c) (.slice (some ⟨g2, 0, none⟩) q.mem.length cap2) (.int .i64 q.cwp) (.int .i64 q.inv)
  have ho9 : Only (fun k => k = W.heap.size ∨ k = W.heap.size + 1) wy (cp5 (wy.setCell ⟨W.heap.size, 2, none⟩ (.slice (some ⟨g2, 0, none⟩) q.mem.length cap2)) (W.heap.size + 1) (.int .i64 q.f.nw) (.slice p L.length c) (.slice (some ⟨g2, 0, none⟩) q.mem.length cap2) (.int .i64 q.cwp) (.int .i64 q.inv)) :=
    ((Only.refl (fun k => k = W.heap.size ∨ k = W.heap.size + 1) wy).setCell (p := ⟨W.heap.size, 2, none⟩) (.inl rfl) _).trans (cp5_only _ _ _ _ _ _ _ (.inr rfl))
  change bodyPost _ _ _ _ _ (cp5 (wy.setCell ⟨W.heap.size, 2, none⟩ (.slice (some ⟨g2, 0, none⟩) q.mem.length cap2)) (W.heap.size + 1) (.int .i64 q.f.nw) (.slice p L.length c) (.slice (some ⟨g2, 0, none⟩) q.mem.length cap2) (.int .i64 q.cwp) (.int .i64 q.inv))
  clear b0 b1 b2 b3 b4 bf2 r0 r1 r2 r3 r4 rf0 rf1 rf2 rf3 rf4
  generalize (cp5 (wy.setCell ⟨W.heap.size, 2, none⟩ (.slice (some ⟨g2, 0, none⟩) q.mem.length cap2)) (W.heap.size + 1) (.int .i64 q.f.nw) (.slice p L.length c) (.slice (some ⟨g2, 0, none⟩) q.mem.length cap2) (.int .i64 q.cwp) (.int .i64 q.inv)) = W9 at *
  have s0 := hR9.cell (k := 0) rfl
  have s1 := hR9.cell (k := 1) rfl
  have s2 := hR9.cell (k := 2) rfl
  have s3 := hR9.cell (k := 3) rfl
  have s4 := hR9.cell (k := 4) rfl
  refine bodyPost_ret (by simp [results, Tryz.results72, go_sem, s0, s1, s2, s3, s4]; try rfl) rfl ?_
  have hmem : (store8 q wi).mem.length = q.mem.length := by unfold store8 putV; simp only; split; rw [putS_len]; rfl
  refine ⟨_, ?_, ⟨.slice p L.length c, L, g2, cap2, rfl, ⟨?_, HIN.out.says, ?_, HIN.out.ok⟩, hL⟩, ?_, ?_⟩
  · unfold can8
    rw [HWL.out]
    rw [show (store8 q wi).agg (.slice p L.length c) g2 cap2 = .agg #[.int .i64 q.f.nw, .slice p L.length c, .slice (some ⟨g2, 0, none⟩) q.mem.length cap2, .int .i64 q.cwp, .int .i64 q.inv] from by unfold W8.agg; rw [hmem]; rfl]
    rfl
  · exact HIN.out.log.only ho9 (fun k hk hS => by have := HLO.out k hk; omega)
  · have h := HRF.out
    exact h.keep ho9 (by omega)
  · exact HBW.out.trans (ho9.below HBW.out.size (fun k hk hS => by omega))
  · intro k hk
    rcases (own8_agg _ _ _ _ _).1 hk with h | rfl
    · exact .inl ((own8_agg q _ _ _ _).2 (.inl h))
    · rcases hgne with rfl | h
      · exact .inl ((own8_agg q _ _ _ _).2 (.inr rfl))
      · exact .inr (by omega)
end Go.Proofs.YtajholbcpmjhiaaGreatDoor
