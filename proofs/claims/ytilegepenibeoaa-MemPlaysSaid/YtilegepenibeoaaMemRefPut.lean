/- The walks of muntinref05.Store, Put, Words and of muntinlaw05.same. -/
import Derived.Test.YtilegepenibeoaaMemRef
import Derived.Test.YtilegepenibeoaaMemRowsLaw
namespace Go.Proofs.Ytilegepenibeoaa
open Go.RowKit
set_option linter.unusedVariables false
set_option linter.unusedSimpArgs false
/-- What the document's Store gives: the memory then, in memory of the call's own, or the one it was given. -/
def RGives (B g n : Nat) (err : Int) (d2 : List Int) (w : World) (e : Ending) (w' : World) : Prop :=
  ∃ g' cap', e = .returned (.tuple #[.slice (some ⟨g', 0, none⟩) n cap', .int .i64 err]) ∧ RefAt w' B g' cap' d2 ∧ Below w.heap.size w w' ∧ (g' = g ∨ w.heap.size ≤ g')
theorem mret_si {v : Value} {a b : Int} (h : a = b) : Ending.returned (.tuple #[v, .int .i64 a]) = .returned (.tuple #[v, .int .i64 b]) := by rw [h]
/-- The bytes of x from the last to the first, j of them. -/
def setR (d : List Int) (p : Nat) (x : Int) : Nat → List Int
  | 0 => d
  | j + 1 => (setR d p x j).set (p - j) (x / 256 ^ j % 256)
theorem setR_len (d : List Int) (p : Nat) (x : Int) (j : Nat) : (setR d p x j).length = d.length := by
  induction j with
  | zero => rfl
  | succ j ih => simp [setR, ih]
theorem setR_one (d : List Int) (a : Nat) (x : Int) : setR d a x 1 = storeS d a 1 x := by simp [setR, storeS]
theorem setR_four (d : List Int) (a : Nat) (x : Int) : setR d (a + 3) x 4 = storeS d a 4 x := by
  simp [setR, storeS]

theorem div_bd {x : Int} (hx : 0 ≤ x) (hx2 : x < 4294967296) (j : Nat) : 0 ≤ x / 256 ^ j ∧ x / 256 ^ j < 4294967296 :=
  ⟨Int.ediv_nonneg hx (Int.le_of_lt (Int.pow_pos (by decide))), Int.lt_of_le_of_lt (Int.ediv_le_self _ hx) hx2⟩
theorem div_succ (x : Int) (j : Nat) : x / 256 ^ j / 256 = x / 256 ^ (j + 1) := by
  rw [Int.pow_succ, Int.ediv_ediv_of_nonneg (Int.le_of_lt (Int.pow_pos (by decide)))]
set_option maxHeartbeats 1000000 in
set_option maxRecDepth 4000 in
theorem rstore_any (w : World) (B g cap : Nat) (d : List Int) (h : RefAt w B g cap d) (a many : Int) (ha : 0 ≤ a) (ha2 : a < 4294967296) (x : Int) (hx : 0 ≤ x) (hx2 : x < 4294967296) :
    Calls Try.prog 10 #[.slice (some ⟨g, 0, none⟩) d.length cap, .int .u32 a, .int .i64 many, .int .u32 x] w (RGives B g d.length (spanE d.length a 1 many) (storeV d a many x) w) := by
  have ht := rthere_any (some ⟨g, 0, none⟩) d.length cap h.len a many ha ha2 w
  have HT := mhid ht
  have H := mhid h
  clear ht h
  by_cases he : spanE d.length a 1 many = 0
  · obtain ⟨_, h4, _, h5⟩ := spanE_ok he ha
    have E := mhid he
    have hlen := H.out.len
    obtain ⟨i0, hi, hz0, hz1, hz2⟩ := info_parts info8
    have hlt := H.out.lt
    have h1 : RefAt (w.alloc (.cells #[] 5)) B g cap d := H.out.keep ((Only.refl (fun _ => False) w).alloc _) id
    have hown : (w.alloc (.cells #[] 5)).ownsRow w.heap.size 5 1 (.slice (some ⟨w.heap.size, 0, none⟩) 0 0) 0 [] := World.ownsRow_lit w #[] 0 (Nat.le_refl _) (by unfold maxLen; omega) rfl
    have hnews := h1.news
    have q1 : (u8s d).length = d.length * 1 := by simp [u8s]
    have q2 : 0 + d.length ≤ maxLen := by unfold maxLen; omega
    have q3 : (0 + d.length) * 1 ≤ 140737488355328 := by omega
    have q4 : w.heap.size ≤ (w.alloc (.cells #[] 5)).heap.size := by simp
    have Q1 := mhid q1
    obtain ⟨A, rfl⟩ := Int.eq_ofNat_of_zero_le ha
    obtain ⟨M, rfl⟩ : ∃ M : Nat, many = (M : Int) := ⟨many.toNat, by omega⟩
    have hM : M = 1 ∨ M = 4 := by omega
    have hv : setR d (A + M - 1) x M = storeV d A M x := by
      unfold storeV; rw [if_pos he]
      rcases hM with rfl | rfl
      · exact setR_one d A x
      · exact setR_four d A x
    have HV := mhid hv
    have hM4 : M ≤ 4 := by omega
    have hM1 : 1 ≤ M := by omega
    have hr : A + M ≤ d.length := by rcases hM with rfl | rfl <;> omega
    clear q1 he h1 hv hM h4 h5
    go_enter Try.func10, Try.ntmps10
    go_wp2_with fail
    refine HT.out.mono ?_
    rw [E.out]
    rintro e w' ⟨rfl, rfl⟩
    clear HT
    go_wp2_with (at_builtin; refine wpList_append_own _ rfl _ _ 30 rfl w.heap.size 5 i0 (.int .u8 0) 1 1 Try.underlying30 hi hz0 hz1 hz2 rfl (by decide) _ 0 [] rfl hown ⟨g, 0, none⟩ d.length cap (u8s d) rfl Q1.out hnews u8s_one q2 q3 q4 ?_; intro v' w1 hown1 hgrow1 hnil; have hown2 := own_tail (k := 0) hown1; obtain ⟨g2, cap2, rfl, hg2⟩ := own_some hown2 (fun e => by cases (hnil.1 e).1))
    have hb1 : Below w.heap.size w w1 := ((Below.refl _ w).alloc (Nat.le_refl _) _).grown hgrow1 q4 (fun k e => by cases e; exact Nat.le_refl _)
    have hR : RefAt w1 w.heap.size g2 cap2 d := ⟨hown2, H.out.bytes, hlen⟩
    have G1 := mhid (And.intro hb1 hR)
    clear hb1 hR hown2 hown1 hnil hgrow1 hown hnews q2 q3 q4
    go_loopw [3, 12] (fun y i wr => ∃ (j : Nat) (t : Int), j ≤ M ∧ t = (M : Int) - 1 - j ∧ i = .int .i64 t ∧ y = .int .u32 (x / 256 ^ j) ∧ RefAt wr w.heap.size g2 cap2 (setR d (A + M - 1) x j) ∧ Below w.heap.size w wr) (fun _ i _ => (intOf i + 1).toNat)
    case atStart => exact ⟨0, (M : Int) - 1, Nat.zero_le _, by omega, by go_num, by simp, G1.out.2, G1.out.1⟩
    case round =>
      obtain ⟨j, t, hj, ht, rfl, rfl, href, hbl⟩ := hrel
      by_cases hlt : j < M
      · obtain ⟨T, rfl⟩ : ∃ T : Nat, t = T := ⟨t.toNat, by omega⟩
        have hT : A + M - 1 - j = A + T := by omega
        have hdv := div_bd hx hx2 j
        have hds := div_succ x j
        have hln := setR_len d (A + M - 1) x j
        have hset : setR d (A + M - 1) x (j + 1) = (setR d (A + M - 1) x j).set (A + T) (x / 256 ^ j % 256) := by rw [← hT]; rfl
        have SE := mhid hset
        have DS := mhid hds
        clear hset hds
        generalize x / 256 ^ j = y at hdv SE DS
        have hstep := href.set (i := A + T) (by omega) (x := y % 256) (by omega)
        have hcell := href.byte (i := A + T) (by omega)
        have hfree := href.free (A + T)
        have hbl2 := hbl.setCell (p := ⟨g2, A + T, none⟩) hg2 (.int .u8 (y % 256))
        rw [← SE.out] at hstep
        have G2 := mhid (And.intro hstep hbl2)
        clear hstep hbl2 href hbl SE
        generalize (setR d (A + M - 1) x j).getD (A + T) 0 = old at hcell
        have JT := mhid (And.intro hj (And.intro ht (And.intro hT hln)))
        clear hj ht hT hln hlt
        have hTl : (A : Int) + T < d.length := by have := JT.out; omega
        go_wp2_with fail
        have J := JT.out
        exact ⟨⟨j + 1, (T : Int) - 1, by omega, by omega, rfl, by rw [DS.out], G2.out.1, G2.out.2⟩, by simp [intOf] <;> omega⟩
      · obtain rfl : j = M := by omega
        obtain rfl : t = -1 := by omega
        clear ht hj hlt hr hM1 hM4
        go_wp2_with fail
        go_ret2
        exact ⟨g2, cap2, mret_si E.out.symm, by rw [← HV.out]; exact href.base (by omega), hbl, .inr hg2⟩
  · have E := mhid (show storeV d a many x = d from if_neg he)
    have he2 : (spanE d.length a 1 many != 0) = true := by simpa using he
    clear he
    go_enter Try.func10, Try.ntmps10
    go_wp2_with fail
    refine HT.out.mono ?_
    generalize hq : spanE d.length a 1 many = q at he2 ⊢
    have HQ := mhid hq
    clear hq
    rintro e w' ⟨rfl, rfl⟩
    clear HT
    go_wp2_with fail
    go_ret2
    exact ⟨g, cap, mret_si HQ.out.symm, by rw [E.out]; exact H.out, Below.refl _ _, .inl rfl⟩
end Go.Proofs.Ytilegepenibeoaa
