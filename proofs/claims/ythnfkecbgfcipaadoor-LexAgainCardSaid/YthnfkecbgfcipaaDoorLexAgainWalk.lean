/- 'LexAgain': its walk. -/
import Derived.Test.YthnfkecbgfcipaaDoorLexOut
import Derived.Test.YthnfkecbgfcipaaDoorLexAlike
import Derived.Test.YthnfkecbgfcipaaDoorLexAgainLaw
import Derived.Deep.Cut
import Derived.Laws.IdiomStrings
namespace Go.Proofs.YthnfkecbgfcipaaDoor
open Go.RowKit
set_option linter.unusedVariables false
set_option linter.unusedSimpArgs false
theorem moreC_len (g : List UInt8) (hg : g.length ≤ 2) (c : UInt8) : (moreC g c).length ≤ 11 := by
  unfold moreC
  split
  · simp; omega
  · split
    · omega
    · simp
theorem moreT_len (g : List UInt8) (hg : g.length ≤ 2) : ∀ s : List UInt8, (moreT g s).length ≤ s.length * 11
  | [] => by simp [moreT]
  | c :: s => by
    have ih := moreT_len g hg s
    have h1 := moreC_len g hg c
    show (moreC g c ++ moreT g s).length ≤ _
    rw [List.length_append, List.length_cons]
    omega
theorem moreT_snoc (g s : List UInt8) (c : UInt8) : moreT g (s ++ [c]) = moreT g s ++ moreC g c := by
  unfold moreT
  rw [List.flatMap_append]
  simp
theorem cat2 (a b : List UInt8) : (⟨a.toArray⟩ ++ ⟨b.toArray⟩ : ByteArray) = ⟨(a ++ b).toArray⟩ := by
  apply ByteArray.ext
  simp
def gapS : Nat → List UInt8
  | 0 => [32]
  | 1 => [9]
  | 2 => [13, 32]
  | _ => [32, 32]
theorem gapS_ok (n : Nat) : whiteG (gapS n) ∧ (gapS n).length ≤ 2 := by
  match n with
  | 0 => exact ⟨⟨by decide, by decide⟩, by decide⟩
  | 1 => exact ⟨⟨by decide, by decide⟩, by decide⟩
  | 2 => exact ⟨⟨by decide, by decide⟩, by decide⟩
  | _ + 3 =>
    show whiteG [32, 32] ∧ [(32 : UInt8), 32].length ≤ 2
    exact ⟨⟨by decide, by decide⟩, by decide⟩
/-- All that is made of a source. -/
def allT (g s : List UInt8) : List UInt8 := [35, 32, 120, 10] ++ g ++ [10] ++ moreT g s
theorem all_lex (g s : List UInt8) (hg : whiteG g) : toB (lexS (allT g s ++ [10, 35])) = toB (lexS s) := by
  have e : allT g s ++ [10, 35] = [35, 32, 120] ++ 10 :: (g ++ 10 :: (moreT g s ++ [10, 35])) := by unfold allT; simp
  have h1 : toB (lexS [35, 32, 120]) = some [] := by rw [lineB_line _ (by decide)]; rfl
  have h2 : toB (lexS g) = some [] := by
    rw [lineB_line g (fun c hc => (hg.2 c hc).2)]
    have w := (words_more g hg g (.inr rfl) 0 [] 0 0 (Nat.le_refl _) (by simp)).1
    have w2 : wordsT g = [] := w
    rw [w2]; rfl
  rw [e, join_nil _ _ h1, join_nil _ _ h2, more_lines g hg s.length s (Nat.le_refl _)]
theorem toB_some {x : Except (Nat × Nat) (List Tok)} {l : List (Nat × List UInt8 × Nat)} (h : toB x = some l) : ∃ ts, x = .ok ts ∧ ts.map bare = l := by
  cases x with
  | ok ts => exact ⟨ts, rfl, Option.some.inj h⟩
  | error p => cases h
theorem more_ten (M g : List UInt8) (c : UInt8) (h : (c == 10) = true) : (⟨M.toArray⟩ ++ ⟨g.toArray⟩ ++ ⟨#[10, 10, 32, 35, 32, 123, 32, 63, 10]⟩ : ByteArray) = ⟨(M ++ moreC g c).toArray⟩ := by
  obtain rfl : c = 10 := eq_of_beq h
  rw [show (⟨#[10, 10, 32, 35, 32, 123, 32, 63, 10]⟩ : ByteArray) = ⟨([10, 10, 32, 35, 32, 123, 32, 63, 10] : List UInt8).toArray⟩ from rfl, cat2, cat2]
  unfold moreC
  rw [if_pos (by decide), List.append_assoc]
theorem more_blank (M g : List UInt8) (c : UInt8) (h : (c == 32) = true) : (⟨M.toArray⟩ ++ ⟨g.toArray⟩ : ByteArray) = ⟨(M ++ moreC g c).toArray⟩ := by
  obtain rfl : c = 32 := eq_of_beq h
  rw [cat2]
  unfold moreC
  rw [if_neg (by decide), if_pos (by decide)]
theorem more_other (M g : List UInt8) (c : UInt8) (h1 : (c == 10) = false) (h2 : (c == 32) = false) : (⟨M.toArray⟩ ++ ⟨#[c]⟩ : ByteArray) = ⟨(M ++ moreC g c).toArray⟩ := by
  have n1 : c ≠ 10 := by intro h; subst h; simp at h1
  have n2 : c ≠ 32 := by intro h; subst h; simp at h2
  rw [show (⟨#[c]⟩ : ByteArray) = ⟨([c] : List UInt8).toArray⟩ from rfl, cat2]
  unfold moreC
  rw [if_neg (show ¬ c.toNat = 10 from fun h => n1 (UInt8.toNat_inj.1 h)), if_neg (show ¬ c.toNat = 32 from fun h => n2 (UInt8.toNat_inj.1 h))]
set_option maxRecDepth 100000 in
set_option maxHeartbeats 8000000 in
theorem walk_LexAgain (s : ByteArray) (hs : s.size ≤ maxLen) (n : Int) (hn : 0 ≤ n ∧ n ≤ 255) (w : World) (hW : LexW w) : Calls Tryd.prog 4 #[.string s, .int .u8 n] w fun e w' => e = .returned (.bool true) ∧ Below w.heap.size w w' := by
  by_cases hgt : 2000 < s.size
  case pos =>
    have d1 : decide ((2000 : Int) < s.size) = true := decide_eq_true (by omega)
    have d2 : decide (2000 < s.size) = true := decide_eq_true hgt
    have HH := shid (xhead_any w hW)
    clear hgt
    go_enter Tryd.func4, Tryd.ntmps4
    go_wp2_with fail
    refine HH.out.mono ?_
    rintro e w1 ⟨rfl, hb⟩
    have HB := shid hb
    clear hb
    go_wp2_with fail
    go_ret
    exact ⟨rfl, HB.out⟩
  obtain ⟨l, rfl, hll⟩ : ∃ l : List UInt8, s = ⟨l.toArray⟩ ∧ l.length = s.size := ⟨s.data.toList, (ba_self s).symm, by rw [Lib.size_eq]⟩
  have hl : l.length ≤ 2000 := by omega
  clear hll hs hgt
  have d1 : decide ((2000 : Int) < l.length) = false := decide_eq_false (by omega)
  have d2 : decide (2000 < l.length) = false := decide_eq_false (by omega)
  cases hx : lexS l with
  | error p =>
    have HX := shid hx
    clear hx
    go_enter Tryd.func4, Tryd.ntmps4
    go_wp2_with fail
    refine Calls.mono (lex_err l p (by omega) HX.out _ hW) ?_
    rintro e w1 ⟨rfl, hb1⟩
    have HB1 := shid (hb1.alloc hb1.size (.cells #[.int .i64 (p.1 : Int), .int .i64 (p.2 : Int)] 25))
    clear hb1
    go_wp2_with fail
    refine Calls.mono (xhead_any _ (hW.keep HB1.out)) ?_
    rintro e w8 ⟨rfl, hb8⟩
    have HB8 := shid (HB1.out.trans (hb8.mono HB1.out.size))
    clear hb8
    go_wp2_with fail
    go_ret
    exact ⟨rfl, HB8.out⟩
  | ok ts =>
    have hag := again_lex l ts hx
    obtain ⟨us, hu, hub⟩ := toB_some hag.1
    have HT : Hid ((textS ts).length ≤ 2001) := shid (by omega)
    have hall := fun g (hg : whiteG g) => all_lex g l hg
    rw [hx] at hall
    have HALL := shid hall
    have HX := shid hx
    have HU := shid hu
    have HUB := shid hub
    clear hx hag hall hu hub
    obtain ⟨r, hr, hr4⟩ : ∃ r : Nat, n % 4 = (r : Int) ∧ r < 4 := ⟨(n % 4).toNat, by omega, by omega⟩
    obtain ⟨hgw, hgl⟩ := gapS_ok r
    obtain ⟨g, hg⟩ : ∃ g, g = gapS r := ⟨_, rfl⟩
    rw [← hg] at hgw hgl
    obtain ⟨vs, hv, hvb⟩ := toB_some (HALL.out g hgw)
    have HV := shid hv
    have HVB := shid hvb
    have HG := shid hg
    clear hv hvb hg
    go_enter Tryd.func4, Tryd.ntmps4
    go_wp2_with fail
    refine Calls.mono (lex_ok l ts (by omega) HX.out _ hW) ?_
    rintro e w1 ⟨⟨v1, rfl, hx1⟩, hb1⟩
    have hk1 : Below w1.heap.size w1 (w1.alloc (.cells #[.int .i64 0, .int .i64 0] 25)) := (Below.refl _ _).alloc (Nat.le_refl _) _
    have HX1 := shid (hx1.keepB hk1)
    have HB1 := shid (hb1.trans (hk1.mono hb1.size))
    clear hb1 hk1 hx1
    go_wp2_with fail
    generalize w1.alloc (.cells #[.int .i64 0, .int .i64 0] 25) = w2 at HX1 HB1 ⊢
    refine Calls.mono (text_any _ ts _ HX1.out (by have := HT.out; omega)) ?_
    rintro e w3 ⟨rfl, hb3⟩
    have HX3 := shid (HX1.out.keepB hb3)
    have HB3 := shid (HB1.out.trans (hb3.mono HB1.out.size))
    clear hb3 HX1 HB1
    go_wp2_with fail
    refine Calls.mono (lex_ok (textS ts) us (by have := HT.out; omega) HU.out _ (hW.keep HB3.out)) ?_
    rintro e w4 ⟨⟨v4, rfl, hx4⟩, hb4⟩
    have hk4 : Below w4.heap.size w4 (w4.alloc (.cells #[.int .i64 0, .int .i64 0] 25)) := (Below.refl _ _).alloc (Nat.le_refl _) _
    have hk4' := hb4.trans (hk4.mono hb4.size)
    have HU5 := shid (hx4.keepB hk4)
    have HX5 := shid (HX3.out.keepB hk4')
    have HB5 := shid (HB3.out.trans (hk4'.mono HB3.out.size))
    clear hb4 hk4 hk4' hx4 HX3 HB3
    go_upto_region 7 with (fail)
    generalize w4.alloc (.cells #[.int .i64 0, .int .i64 0] 25) = w5 at HX5 HU5 HB5 ⊢
    go_upto_region 8 with (fail)
    have hgap : (w5.alloc (.cells #[.string ⟨#[32]⟩, .string ⟨#[9]⟩, .string ⟨#[13, 32]⟩, .string ⟨#[32, 32]⟩] 9)).cell? ⟨w5.heap.size, r, none⟩ = some (.string ⟨g.toArray⟩) := by
      rw [HG.out]
      match r, hr4 with
      | 0, _ => exact blk_cell (World.alloc_heap_new _ _) rfl
      | 1, _ => exact blk_cell (World.alloc_heap_new _ _) rfl
      | 2, _ => exact blk_cell (World.alloc_heap_new _ _) rfl
      | 3, _ => exact blk_cell (World.alloc_heap_new _ _) rfl
    have hk6 : Below w5.heap.size w5 (w5.alloc (.cells #[.string ⟨#[32]⟩, .string ⟨#[9]⟩, .string ⟨#[13, 32]⟩, .string ⟨#[32, 32]⟩] 9)) := (Below.refl _ _).alloc (Nat.le_refl _) _
    have HX6 := shid (HX5.out.keepB hk6)
    have HU6 := shid (HU5.out.keepB hk6)
    have HB6 := shid (HB5.out.trans (hk6.mono HB5.out.size))
    clear hk6 HX5 HU5 HB5
    generalize w5.alloc (.cells #[.string ⟨#[32]⟩, .string ⟨#[9]⟩, .string ⟨#[13, 32]⟩, .string ⟨#[32, 32]⟩] 9) = w6 at HX6 HU6 HB6 hgap ⊢
    generalize w5.heap.size = B at hgap ⊢
    have hr1 : n.tmod 4 = (r : Int) := by rw [Int.tmod_eq_emod_of_nonneg hn.1]; exact hr
    have hr2 : (r : Int) < 4 := by omega
    have g1 : ¬ (9223372036854775807 < 4 + g.length) := by omega
    have g2 : decide ((9223372036854775807 : Int) < 4 + g.length) = false := decide_eq_false (by omega)
    have g3 : ¬ (9223372036854775807 < 4 + g.length + 1) := by omega
    have g4 : decide ((9223372036854775807 : Int) < 4 + g.length + 1) = false := decide_eq_false (by omega)
    go_wp2_with fail
    go_loopw [12, 13] (fun m i wr => ∃ (k : Nat) (M : List UInt8), k ≤ l.length ∧ i = .int .i64 (k : Int) ∧ m = .string ⟨M.toArray⟩ ∧ Hid (M = allT g (l.take k)) ∧ Hid (Below w6.heap.size w6 wr)) (fun _ i _ => l.length - (intOf i).toNat)
    case atStart => exact ⟨0, allT g [], Nat.zero_le _, rfl, congrArg Value.string (by rw [show (⟨#[35, 32, 120, 10]⟩ : ByteArray) = ⟨([35, 32, 120, 10] : List UInt8).toArray⟩ from rfl, show (⟨#[10]⟩ : ByteArray) = ⟨([10] : List UInt8).toArray⟩ from rfl, cat2, cat2]; unfold allT moreT; simp), shid rfl, shid (Below.refl _ _)⟩
    case round =>
      obtain ⟨k, M, hk, rfl, rfl, hM, hbel⟩ := hrel
      have HM := shid hM.out
      have HBR := shid hbel.out
      have hML : M.length ≤ 30000 := by
        have := moreT_len g hgl (l.take k)
        rw [List.length_take] at this
        rw [hM.out]
        unfold allT
        simp only [List.length_append, List.length_cons, List.length_nil]
        omega
      clear hM hbel g1 g2 g3 g4
      have hgap1 := (HBR.out.cell (p := ⟨B, r, none⟩) (World.block_lt_of_cell? _ _ hgap)).trans hgap
      by_cases hlt : k < l.length
      · obtain ⟨c, hc⟩ : ∃ c, l[k]? = some c := ⟨_, List.getElem?_eq_getElem hlt⟩
        have hsz : k < (⟨l.toArray⟩ : ByteArray).size := by simpa [ByteArray.size] using hlt
        have hxk : (⟨l.toArray⟩ : ByteArray)[k]'hsz = c := (List.getElem?_eq_some_iff.1 hc).2
        have HC := shid hc
        have h1 : (k : Int) < l.length := by omega
        clear hc
        have hconv := run_convert_bytes_back (P := Tryd.prog) (wr.alloc (.cells #[.int .u8 (c.toNat : Int)] 5)) 35 9 5 ⟨wr.heap.size, 0, none⟩ 1 [c] Tryd.underlying35 Tryd.underlying5 Tryd.underlying9 (fun j hj => by
          obtain rfl : j = 0 := by simpa using hj
          exact blk_cell (World.alloc_heap_new _ _) rfl)
        have hconv2 : (convert 35 9 (.slice (some ⟨wr.heap.size, 0, none⟩) 1 1)).run Tryd.prog (wr.alloc (.cells #[.int .u8 (c.toNat : Int)] 5)) = .ok (.string ⟨#[c]⟩) (wr.alloc (.cells #[.int .u8 (c.toNat : Int)] 5)) := hconv
        clear hconv
        have hbk : Below wr.heap.size wr (wr.alloc (.cells #[.int .u8 (c.toNat : Int)] 5)) := (Below.refl _ _).alloc (Nat.le_refl _) _
        have HBW := shid (HBR.out.trans (hbk.mono HBR.out.size))
        have hgap2 := (hbk.cell (p := ⟨B, r, none⟩) (World.block_lt_of_cell? _ _ hgap1)).trans hgap1
        have HMN := shid (show M ++ moreC g c = allT g (l.take (k + 1)) by
          rw [List.take_add_one, HC.out]
          unfold allT
          rw [show (some c).toList = [c] from rfl, moreT_snoc, HM.out]
          unfold allT
          simp only [List.append_assoc])
        have t1 : ¬ (9223372036854775807 < M.length + g.length) := by omega
        have t2 : decide ((9223372036854775807 : Int) < M.length + g.length) = false := decide_eq_false (by omega)
        have t3 : ¬ (9223372036854775807 < M.length + g.length + 9) := by omega
        have t4 : decide ((9223372036854775807 : Int) < M.length + g.length + 9) = false := decide_eq_false (by omega)
        have t5 : ¬ (9223372036854775807 < M.length + 1) := by omega
        have t6 : decide ((9223372036854775807 : Int) < M.length + 1) = false := decide_eq_false (by omega)
        clear hbk hgap
        go_wp2_with fail
        · rename_i hh
          exact ⟨⟨k + 1, M ++ moreC g c, by omega, by go_num, congrArg Value.string (more_ten M g c hh), shid HMN.out, shid HBW.out⟩, by simp [intOf] <;> omega⟩
        · rename_i hh
          exact ⟨⟨k + 1, M ++ moreC g c, by omega, by go_num, congrArg Value.string (more_blank M g c hh), shid HMN.out, shid HBW.out⟩, by simp [intOf] <;> omega⟩
        · rename_i hh1 hh2
          exact ⟨⟨k + 1, M ++ moreC g c, by omega, by go_num, congrArg Value.string (more_other M g c hh1 hh2), shid HMN.out, shid HBW.out⟩, by simp [intOf] <;> omega⟩
      · obtain rfl : k = l.length := by omega
        have HM2 := shid (show M = allT g l by rw [HM.out, List.take_length])
        have hcat : (⟨M.toArray⟩ ++ ⟨#[10, 35]⟩ : ByteArray) = ⟨(M ++ [10, 35]).toArray⟩ := cat2 M [10, 35]
        have g1 : ¬ (9223372036854775807 < M.length + 2) := by omega
        have g2 : decide ((9223372036854775807 : Int) < M.length + 2) = false := decide_eq_false (by omega)
        have HLV := shid (show lexS (M ++ [10, 35]) = .ok vs by rw [HM2.out]; exact HV.out)
        have HX7 := shid (HX6.out.keepB HBR.out)
        have HU7 := shid (HU6.out.keepB HBR.out)
        have HB7 := shid (HB6.out.trans (HBR.out.mono HB6.out.size))
        clear HX6 HU6 HB6 HBR hgap hgap1
        go_wp2_with fail
        refine Calls.mono (lex_ok (M ++ [10, 35]) vs (by simp; omega) HLV.out _ (hW.keep HB7.out)) ?_
        rintro e w8 ⟨⟨v8, rfl, hx8⟩, hb8⟩
        have hk8 : Below w8.heap.size w8 (w8.alloc (.cells #[.int .i64 0, .int .i64 0] 25)) := (Below.refl _ _).alloc (Nat.le_refl _) _
        have hk8' := hb8.trans (hk8.mono hb8.size)
        have HV9 := shid (hx8.keepB hk8)
        have HX9 := shid (HX7.out.keepB hk8')
        have HU9 := shid (HU7.out.keepB hk8')
        have HB9 := shid (HB7.out.trans (hk8'.mono HB7.out.size))
        clear hb8 hk8 hk8' hx8 HX7 HU7 HB7
        go_wp2_with fail
        refine Calls.mono (alike_yes _ _ ts us _ HX9.out HU9.out HUB.out.symm) ?_
        rintro e w10 ⟨rfl, hb10⟩
        have HV10 := shid (HV9.out.keepB hb10)
        have HX10 := shid (HX9.out.keepB hb10)
        have HB10 := shid (HB9.out.trans (hb10.mono HB9.out.size))
        clear hb10 HV9 HX9 HU9 HB9
        go_wp2_with fail
        refine Calls.mono (alike_yes _ _ ts vs _ HX10.out HV10.out HVB.out.symm) ?_
        rintro e w11 ⟨rfl, hb11⟩
        have HB11 := shid (HB10.out.trans (hb11.mono HB10.out.size))
        clear hb11
        go_wp2_with fail
        refine Calls.mono (xhead_any _ (hW.keep HB11.out)) ?_
        rintro e w12 ⟨rfl, hb12⟩
        have HB12 := shid (HB11.out.trans (hb12.mono HB11.out.size))
        clear hb12
        go_wp2_with fail
        go_ret
        exact ⟨rfl, HB12.out⟩
end Go.Proofs.YthnfkecbgfcipaaDoor
