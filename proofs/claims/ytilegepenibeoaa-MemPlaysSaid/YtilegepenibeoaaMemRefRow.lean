/- The walks of muntinref05.Put, Words and of muntinlaw05.same. -/
import Derived.Test.YtilegepenibeoaaMemRefPut
namespace Go.Proofs.Ytilegepenibeoaa
open Go.RowKit
set_option linter.unusedVariables false
set_option linter.unusedSimpArgs false
theorem keepm {S : Nat} {a b : World} {p : Addr} {v : Value} (hb : Below S a b) (hp : p.block < S) (h : a.cell? p = some v) : b.cell? p = some v := (hb.cell hp).trans h
set_option maxHeartbeats 1000000 in
theorem rput_any (w : World) (B g cap : Nat) (d : List Int) (h : RefAt w B g cap d) (a : Int) (ha : 0 ≤ a) (ha2 : a < 4294967296) (v : Value) (l : List Int) (hl : l.length ≤ maxLen) (hv : U32s (fun _ => False) w v l) :
    Calls Try.prog 12 #[.slice (some ⟨g, 0, none⟩) d.length cap, .int .u32 a, v] w (RGives B g d.length (spanE d.length a l.length 4) (putV d a l) w) := by
  unfold maxLen at hl
  have hs := rspan_any (some ⟨g, 0, none⟩) d.length cap h.len a l.length ha ha2 (by omega) w
  have HS := mhid hs
  have H := mhid h
  have hB := h.lt
  clear hs h
  obtain ⟨hw, p, c, rfl, hv⟩ := hv
  have HV := mhid hv
  clear hv
  by_cases he : spanE d.length a l.length 4 = 0
  · obtain ⟨_, _, h4, h5⟩ := spanE_ok he ha
    have HE := mhid he
    have hlen0 := H.out.len
    have h4' := h4
    clear he
    obtain ⟨A, rfl⟩ := Int.eq_ofNat_of_zero_le ha
    go_enter Try.func12, Try.ntmps12
    go_wp2_with fail
    refine HS.out.mono ?_
    rw [HE.out]
    rintro e w' ⟨rfl, rfl⟩
    clear HS
    go_wp2_with fail
    go_loopw [0, 9] (fun mm i wr => ∃ k g' cap', k ≤ l.length ∧ i = .int .i64 (k : Nat) ∧ mm = .slice (some ⟨g', 0, none⟩) d.length cap' ∧ RefAt wr B g' cap' (putS d A (l.take k)) ∧ Below w.heap.size w wr ∧ (g' = g ∨ w.heap.size ≤ g')) (fun _ i _ => l.length - (intOf i).toNat)
    case atStart => exact ⟨0, g, cap, Nat.zero_le _, rfl, rfl, H.out, Below.refl _ _, .inl rfl⟩
    case round =>
      obtain ⟨k, g', cap', hk, rfl, rfl, href, hbl, hgg⟩ := hrel
      by_cases hlt : k < l.length
      · obtain ⟨b, o, rfl, _, hb2, hc⟩ := HV.out (by omega)
        have hcell : wr.cell? ⟨b, o + k, none⟩ = some (.int .u32 (l.getD k 0)) := keepm hbl hb2 (hc k hlt)
        have hx := hw.at k
        have hlen2 := putS_len (l.take k) d A
        have e4 : spanE d.length ((A : Int) + 4 * (k : Int)) 1 4 = 0 := by unfold spanE; rw [if_neg (by omega), if_neg (by omega), if_neg (by omega)]
        have hst := rstore_any wr B g' cap' _ href ((A : Int) + 4 * (k : Int)) 4 (by omega) (by omega) (l.getD k 0) hx.1 hx.2
        rw [hlen2] at hst
        rw [e4] at hst
        rw [show storeV (putS d A (l.take k)) ((A : Int) + 4 * (k : Int)) 4 (l.getD k 0) = putS d A (l.take (k + 1)) from by rw [putS_take l d A k hlt]; unfold storeV; rw [hlen2, if_pos e4]; congr 1] at hst
        have HT := mhid hst
        have HB := mhid hbl
        clear hst hbl e4 href hlen2 hc HV
        generalize l.getD k 0 = x at hcell hx HT
        have hk4 : (k : Int) < l.length := by omega
        go_wp2_with fail
        refine HT.out.mono ?_
        rintro e w' ⟨g2, cap2, rfl, href2, hb2', hgg2⟩
        have hb3 : Below w.heap.size w w' := HB.out.trans (hb2'.mono HB.out.size)
        have hg3 : g2 = g ∨ w.heap.size ≤ g2 := by
          have := HB.out.size
          rcases hgg2 with rfl | h3
          · exact hgg
          · exact .inr (by omega)
        have G := mhid (And.intro href2 (And.intro hb3 hg3))
        clear href2 hb2' hgg2 hb3 hg3 HT HB
        go_wp2_with fail
        go_roundw
        case rel => exact ⟨k + 1, g2, cap2, by omega, by go_num, rfl, G.out.1, G.out.2.1, G.out.2.2⟩
        case measure => simp [intOf] <;> omega
      · obtain rfl : k = l.length := by omega
        go_wp2_with fail
        go_ret2
        refine ⟨g', cap', mret_si HE.out.symm, ?_, hbl, hgg⟩
        rw [show putV d (A : Int) l = putS d A l from if_pos HE.out]
        rw [List.take_length] at href
        exact href
  · have E := mhid (show putV d a l = d from if_neg he)
    have he2 : (spanE d.length a l.length 4 != 0) = true := by simpa using he
    clear he
    go_enter Try.func12, Try.ntmps12
    go_wp2_with fail
    refine HS.out.mono ?_
    generalize hq : spanE d.length a l.length 4 = q at he2 ⊢
    have HQ := mhid hq
    clear hq
    rintro e w' ⟨rfl, rfl⟩
    clear HS
    go_wp2_with fail
    go_ret2
    exact ⟨g, cap, mret_si HQ.out.symm, by rw [E.out]; exact H.out, Below.refl _ _, .inl rfl⟩
set_option maxHeartbeats 1000000 in
theorem rwords_any (w : World) (B g cap : Nat) (d : List Int) (h : RefAt w B g cap d) (a : Int) (ha : 0 ≤ a) (ha2 : a < 4294967296) (n : Int) (hn : n ≤ 9223372036854775807) :
    Calls Try.prog 15 #[.slice (some ⟨g, 0, none⟩) d.length cap, .int .u32 a, .int .i64 n] w (Tells d a n w) := by
  have hs := rspan_any (some ⟨g, 0, none⟩) d.length cap h.len a n ha ha2 hn w
  have HS := mhid hs
  have H := mhid h
  have hlen := h.len
  have hB := h.lt
  clear hs h
  obtain ⟨i0, hi, hz0, hz1, hz2⟩ := info_parts info32
  by_cases he : spanE d.length a n 4 = 0
  · obtain ⟨h3, _, h4, h5⟩ := spanE_ok he ha
    have HE := mhid he
    clear he
    obtain ⟨N, rfl⟩ := Int.eq_ofNat_of_zero_le h3
    obtain ⟨A, rfl⟩ := Int.eq_ofNat_of_zero_le ha
    clear h3 hn
    go_enter Try.func15, Try.ntmps15
    go_wp2_with fail
    refine HS.out.mono ?_
    rw [HE.out]
    rintro e w' ⟨rfl, rfl⟩
    clear HS
    go_wp2_with fail
    go_loopw [9, 10] (fun v i wr => ∃ k : Nat, k ≤ N ∧ i = .int .i64 k ∧ wr.ownsRow w.heap.size 31 1 v k (u32s (wordsS d A k)) ∧ Below w.heap.size w wr) (fun _ i _ => N - (intOf i).toNat)
    case atStart => exact ⟨0, Nat.zero_le _, rfl, World.ownsRow_nil _ _ _ _, Below.refl _ _⟩
    case round =>
      obtain ⟨k, hk, rfl, hown, hbl⟩ := hrel
      by_cases hlt : k < N
      · have href : RefAt wr B g cap d := H.out.keep (Only.of_below (S := fun _ => False) hbl) id
        have q2 : k + 1 ≤ maxLen := by unfold maxLen; omega
        have q3 : (k + 1) * 4 ≤ 140737488355328 := by omega
        have q4 := hbl.size
        have q5 : w.heap.size ≤ wr.heap.size + 1 := by omega
        have hx := loadS_bd H.out.bytes (A + 4 * k) 4
        have e4 : spanE d.length ((A : Int) + 4 * (k : Int)) 1 4 = 0 := by unfold spanE; rw [if_neg (by omega), if_neg (by omega), if_neg (by omega)]
        have hwd := rload_any wr B g cap d href ((A : Int) + 4 * (k : Int)) 4 (by omega) (by omega)
        rw [show loadV d ((A : Int) + 4 * (k : Int)) 4 = loadS d (A + 4 * k) 4 from by unfold loadV; rw [if_pos e4]; congr 1] at hwd
        rw [e4] at hwd
        have hsu := wordsS_succ d A k
        have HSU := mhid hsu
        have HW := mhid hwd
        have HB := mhid hbl
        clear hsu hwd href hbl e4
        generalize loadS d (A + 4 * k) 4 = x at hx HSU HW
        have hk4 : (k : Int) < N := by omega
        go_wp2_with fail
        refine HW.out.mono ?_
        rintro e w' ⟨rfl, rfl⟩
        clear HW
        go_wp2_with (at_builtin; refine wpList_append_own _ rfl _ _ 32 rfl w.heap.size 31 i0 (.int .u32 0) 1 4 Try.underlying32 hi hz0 hz1 hz2 rfl (by decide) _ k (u32s (wordsS d A k)) rfl (hown.alloc _) ⟨wr.heap.size, 0, none⟩ 1 1 [.int .u32 x] rfl rfl (cell_one_new _ _ _) (by simp [Value.oneCell']) q2 q3 (by simpa using q5) ?_; intro v' w1 hown1 hgrow1 hnil)
        have hb1 : Below w.heap.size w w1 := (HB.out.alloc q4 _).grown hgrow1 (by simpa using q5) (fun r e => ((hown.alloc (.cells #[.int .u32 x] 31)).lt r e).1)
        go_roundw
        case rel => exact ⟨k + 1, by omega, by go_num, by rw [HSU.out]; simpa [u32s] using hown1, hb1⟩
        case measure => simp [intOf] <;> omega
      · obtain rfl : k = N := by omega
        go_wp2_with fail
        go_ret2
        exact ⟨_, wordsS d A k, tell_ret HE.out.symm, by rw [if_pos HE.out]; rfl, by rw [wordsS_len]; exact hown, hbl⟩
  · have E := mhid he
    have he2 : (spanE d.length a n 4 != 0) = true := by simpa using he
    clear he
    go_enter Try.func15, Try.ntmps15
    go_wp2_with fail
    refine HS.out.mono ?_
    generalize hq : spanE d.length a n 4 = q at he2 ⊢
    have HQ := mhid hq
    clear hq
    rintro e w' ⟨rfl, rfl⟩
    clear HS
    go_wp2_with fail
    go_ret2
    exact ⟨_, [], tell_ret HQ.out.symm, by rw [if_neg E.out], own_nil _ _, Below.refl _ _⟩
set_option maxHeartbeats 1000000 in
theorem same_mem (w : World) (m g B gr cap : Nat) (d : List Int) (hm : MemAt w m g d) (h : RefAt w B gr cap d) :
    Calls Try.prog 19 #[.pointer (some ⟨m, 0, none⟩), .slice (some ⟨gr, 0, none⟩) d.length cap] w fun e w' => e = .returned (.bool true) ∧ w = w' := by
  have hz := size_any w m g d hm
  have HZ := mhid hz
  have HM := mhid hm
  have H := mhid h
  have hlen := h.len
  clear hz hm h
  go_enter Try.func19, Try.ntmps19
  go_wp2_with fail
  go_loop [5] (fun i => ∃ k : Nat, k ≤ d.length ∧ i = .int .i64 k) (fun i => d.length - (intOf i).toNat)
  case atStart => exact ⟨0, Nat.zero_le _, rfl⟩
  case round =>
    obtain ⟨k, hk, rfl⟩ := hrel
    by_cases hlt : k < d.length
    · have hl := load_any w m g d HM.out k 1 (by omega) (by omega)
      have e4 : spanE d.length (k : Int) 1 1 = 0 := by unfold spanE; rw [if_neg (by omega), if_neg (by omega), if_neg (by omega)]
      rw [show loadV d (k : Int) 1 = d.getD k 0 from by unfold loadV; rw [if_pos e4]; rfl, e4] at hl
      have hx := H.out.bytes.at k
      have hcell := H.out.byte hlt
      have HL := mhid hl
      clear hl e4
      generalize d.getD k 0 = x at hx hcell HL
      have hk4 : (k : Int) < d.length := by omega
      go_wp2_with fail
      refine HL.out.mono ?_
      rintro e w' ⟨rfl, rfl⟩
      clear HL
      go_wp2_with fail
      exact ⟨⟨k + 1, by omega, by go_num⟩, by simp [intOf] <;> omega⟩
    · obtain rfl : k = d.length := by omega
      go_wp2_with fail
      refine HZ.out.mono ?_
      rintro e w' ⟨rfl, rfl⟩
      clear HZ
      go_wp2_with fail
      go_ret
      exact ⟨rfl, rfl⟩
end Go.Proofs.Ytilegepenibeoaa
