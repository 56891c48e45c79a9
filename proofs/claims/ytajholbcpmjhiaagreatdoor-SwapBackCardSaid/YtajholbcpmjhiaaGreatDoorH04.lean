/- Several texts in one: MemPut, MemWords, MemApartLaw, MachLaw, HandLaw, InstWalks, AsmSpec. -/
import Derived.Test.YtajholbcpmjhiaaGreatDoorH03
import Derived.StillTailTactics
import Derived.BigRegion
import Derived.ChangeAlike
import Derived.Maps.OwnSet
import Derived.Maps.Views
import Derived.Laws.AppendOwnNone
set_option linter.unusedVariables false
set_option linter.unusedSimpArgs false
/- The walk of mem.Put. -/
namespace Go.Proofs.YtajholbcpmjhiaaGreatDoor
open Go.RowKit
theorem putS_snoc (x : Int) : ∀ (l d : List Int) (a : Nat), putS d a (l ++ [x]) = storeS (putS d a l) (a + 4 * l.length) 4 x := by
  intro l
  induction l with
  | nil => intro d a; simp [putS]
  | cons y l ih => intro d a; simp only [List.cons_append, putS]; rw [ih]; congr 1; simp; omega
theorem putS_take (l d : List Int) (a k : Nat) (hk : k < l.length) : putS d a (l.take (k + 1)) = storeS (putS d a (l.take k)) (a + 4 * k) 4 (l.getD k 0) := by
  have e : l.take (k + 1) = l.take k ++ [l.getD k 0] := by
    rw [List.take_succ_eq_append_getElem hk, List.getD_eq_getElem?_getD, List.getElem?_eq_getElem hk]; rfl
  rw [e, putS_snoc, List.length_take, Nat.min_eq_left (by omega)]
def putV (d : List Int) (a : Int) (l : List Int) : List Int := if spanE d.length a l.length 4 = 0 then putS d a.toNat l else d
def Puts (m g : Nat) (d : List Int) (a : Int) (l : List Int) (w : World) (e : Ending) (w' : World) : Prop :=
  e = .returned (.int .i64 (spanE d.length a l.length 4)) ∧ MemAt w' m g (putV d a l) ∧ Only (· = g) w w' ∧ w'.heap.size = w.heap.size
set_option maxRecDepth 100000 in
set_option maxHeartbeats 1000000 in
theorem put_any (w : World) (m g : Nat) (d : List Int) (h : MemAt w m g d) (a : Int) (ha : 0 ≤ a) (ha2 : a < 4294967296) (v : Value) (l : List Int) (hl : l.length ≤ maxLen) (hv : U32s (· = g) w v l) :
    Calls Tryz.prog 53 #[.pointer (some ⟨m, 0, none⟩), .int .u32 a, v] w (Puts m g d a l w) := by
  unfold maxLen at hl
  have hs := span_any w m g d h a l.length 4 ha ha2 (by omega)
  have HS := mhid hs
  have H := mhid h
  clear hs h
  obtain ⟨hw, p, c, rfl, hv⟩ := hv
  have HV := mhid hv
  clear hv
  go_enter Tryz.func53, Tryz.ntmps53
  go_wp2_with fail
  refine HS.out.mono ?_
  rintro e w' (⟨he, ⟨v, rfl, b, rfl, hb⟩, rfl⟩ | ⟨he, rfl, rfl⟩)
  · obtain ⟨_, _, h4, h5⟩ := spanE_ok he ha
    have HE := mhid he
    clear he HS
    by_cases h0 : l.length = 0
    · obtain rfl : l = [] := List.length_eq_zero_iff.1 h0
      clear h0 hb
      go_wp2_with fail
      go_rounds 1
      go_ret
      refine ⟨mret_i HE.out.symm, ?_, Only.refl _ _, rfl⟩
      rw [show putV d a [] = d from by unfold putV; split <;> rfl]; exact H.out
    · have hb2 : b = a.toNat := by omega
      subst hb2
      clear hb
      have hl4 : ((4 * (l.length : Int)).toNat : Nat) = 4 * l.length := by omega
      rw [hl4]
      clear hl4
      · obtain ⟨b, o, rfl, hb1, hb2, hc⟩ := HV.out (by omega)
        have hbs2 : ¬ b = g ∧ b < w.heap.size := ⟨hb1, hb2⟩
        have HC := mhid hc
        have h0' : 0 < l.length := by omega
        clear hc HV h0 hb1 hb2
        go_wp2_with fail
        go_loopw [9, 21] (fun _ i wr => ∃ k : Nat, k ≤ l.length ∧ i = .int .i64 k ∧ MemAt wr m g (putS d a.toNat (l.take k)) ∧ Only (· = g) w wr ∧ wr.heap.size = w.heap.size) (fun _ i _ => l.length - (intOf i).toNat)
        case atStart => exact ⟨0, Nat.zero_le _, rfl, H.out, Only.refl _ _, rfl⟩
        case round =>
          obtain ⟨k, hk, rfl, hmem, honly, hsz⟩ := hrel
          have hlen := hmem.len
          by_cases hlt : k < l.length
          · have hcell : wr.cell? ⟨b, o + k, none⟩ = some (.int .u32 (l.getD k 0)) := (honly.cell (p := ⟨b, o + k, none⟩) hbs2.2 hbs2.1).trans (HC.out k hlt)
            have hx := hw.at k
            have hlen2 := putS_len (l.take k) d a.toNat
            rw [hlen2] at hlen
            have HM := mhid hmem
            have HO := mhid honly
            clear hmem honly hlen2 HC
            have hpt := putS_take l d a.toNat k hlt
            have HP := mhid hpt
            clear hpt
            generalize l.getD k 0 = x at hcell hx HP
            have hk4 : (k : Int) < l.length := by omega
            go_wp2_with fail
            have f1 : IntKind.i64.wrap (4 * (k : Int)) = 4 * (k : Int) := IntWalk.i64_in _ (by omega)
            have f2 : IntKind.i64.wrap (4 * (k : Int) + 4) = 4 * (k : Int) + 4 := IntWalk.i64_in _ (by omega)
            have f3 : (0 : Int) ≤ 4 * (k : Int) := by omega
            have f4 : (0 : Int) ≤ 4 * (k : Int) + 4 := by omega
            have f5 : (4 * (k : Int) + 4).toNat = 4 * k + 4 := by omega
            have f6 : (4 * (k : Int)).toNat = 4 * k := by omega
            have f7 : 4 * (k : Int) + 4 ≤ 4 * (l.length : Int) := by omega
            have f8 : ¬ 4 * l.length = 4 * k := by omega
            have f9 : 4 * (k : Int) ≤ 4 * (k : Int) + 4 := by omega
            go_still_tail 11, (by kernel_rfl)
            have HF := mhid (And.intro f1 f2)
            clear f1 f2 f3 f4 f5 f6 f7 f8 f9
            change wpList _ _ _ _ _ wr.drew
            have HM2 : MemAt wr.drew m g (putS d a.toNat (l.take k)) := HM.out.keep ((Only.refl (fun _ => False) wr).drew) id id
            have HO2 : Only (· = g) w wr.drew := HO.out.drew
            have hsz2 : wr.drew.heap.size = w.heap.size := hsz
            generalize wr.drew = w2 at HM2 HO2 hsz2 ⊢
            go_wp2_with fail
            refine (lay_four _ m g _ HM2 (a.toNat + 4 * k) _ _ hx.1 hx.2 (by rw [putS_len]; omega)).mono ?_
            rintro e w' ⟨rfl, rfl⟩
            have HM3 := HM2.laid4 (a := a.toNat + 4 * k) (x := x) (by rw [putS_len]; omega)
            rw [← HP.out] at HM3
            have HO3 := HO2.trans (laid4_only w2 g (a.toNat + 4 * k) x)
            have hs3 : (laid4 w2 g (a.toNat + 4 * k) x).heap.size = w.heap.size := by simp [laid4, hsz2]
            generalize laid4 w2 g (a.toNat + 4 * k) x = w3 at HM3 HO3 hs3 ⊢
            clear HM2 HO2 HM HO
            have G3 := mhid (And.intro HM3 (And.intro HO3 hs3))
            clear HM3 HO3 hs3
            go_wp2_with fail
            go_roundw
            case rel => exact ⟨k + 1, by omega, by go_num, G3.out.1, G3.out.2.1, G3.out.2.2⟩
            case measure => simp [intOf] <;> omega
          · obtain rfl : k = l.length := by omega
            go_wp2_with fail
            go_ret
            refine ⟨mret_i HE.out.symm, ?_, honly, hsz⟩
            rw [show putV d a l = putS d a.toNat l from if_pos HE.out]
            rw [List.take_length] at hmem
            exact hmem
  · clear HS
    have e0 : putV d a l = d := if_neg he
    have E0 := mhid e0
    clear e0
    go_wp2_with fail
    go_rounds 1
    go_ret
    exact ⟨mret_i rfl, by rw [E0.out]; exact H.out, Only.refl _ _, rfl⟩
end Go.Proofs.YtajholbcpmjhiaaGreatDoor
/- The walk of mem.Words. -/
namespace Go.Proofs.YtajholbcpmjhiaaGreatDoor
open Go.RowKit
theorem wordsS_succ (d : List Int) (a k : Nat) : wordsS d a (k + 1) = wordsS d a k ++ [loadS d (a + 4 * k) 4] := by
  unfold wordsS; rw [List.range_succ, List.map_append]; rfl
theorem wordsS_len (d : List Int) (a k : Nat) : (wordsS d a k).length = k := by simp [wordsS]
theorem wordsS_words {d : List Int} (h : Bytes d) (a k : Nat) : Words (wordsS d a k) := by
  intro x hx
  obtain ⟨i, _, rfl⟩ := List.mem_map.1 hx
  have := loadS_bd h (a + 4 * i) 4; exact ⟨this.1, this.2.1⟩
def Tells (d : List Int) (a n : Int) (w : World) (e : Ending) (w' : World) : Prop :=
  ∃ v l, e = .returned (.tuple #[v, .int .i64 (spanE d.length a n 4)]) ∧ l = (if spanE d.length a n 4 = 0 then wordsS d a.toNat n.toNat else []) ∧ w'.ownsRow w.heap.size 24 1 v l.length (u32s l) ∧ Below w.heap.size w w'
theorem tell_ret {v : Value} {e e' : Int} (h : e = e') : Ending.returned (.tuple #[v, .int .i64 e]) = .returned (.tuple #[v, .int .i64 e']) := by rw [h]
theorem own_nil (w : World) (b : Nat) : w.ownsRow b 24 1 (.slice none 0 0) ([] : List Int).length (u32s []) := World.ownsRow_nil w b _ _
set_option maxHeartbeats 1000000 in
theorem words_any (w : World) (m g : Nat) (d : List Int) (h : MemAt w m g d) (a : Int) (ha : 0 ≤ a) (ha2 : a < 4294967296) (n : Int) (hn : n ≤ 9223372036854775807) :
    Calls Tryz.prog 21 #[.pointer (some ⟨m, 0, none⟩), .int .u32 a, .int .i64 n] w (Tells d a n w) := by
  have hs := span_any w m g d h a n 4 ha ha2 hn
  have HS := mhid hs
  have H := mhid h
  have hlen := h.len
  clear hs h
  obtain ⟨i0, hi, hz0, hz1, hz2⟩ := info_parts info32
  go_enter Tryz.func21, Tryz.ntmps21
  go_wp2_with fail
  refine HS.out.mono ?_
  rintro e w' (⟨he, ⟨v, rfl, b, rfl, hb⟩, rfl⟩ | ⟨he, rfl, rfl⟩)
  · obtain ⟨h3, _, h4, h5⟩ := spanE_ok he ha
    have HE := mhid he
    clear he HS
    obtain ⟨N, rfl⟩ := Int.eq_ofNat_of_zero_le h3
    have hl4 : ((4 * (N : Int)).toNat : Nat) = 4 * N := by omega
    rw [hl4]
    clear hl4 h3 hn
    by_cases h0 : N = 0
    · subst h0
      clear hb
      go_wp2_with fail
      go_rounds 1
      go_ret2
      exact ⟨_, [], tell_ret HE.out.symm, by rw [if_pos HE.out]; rfl, own_nil _ _, Below.refl _ _⟩
    · have hb2 : b = a.toNat := by omega
      subst hb2
      clear hb
      have h0' : 0 < N := by omega
      clear h0
      go_wp2_with fail
      go_loopw [10, 11, 22] (fun v _ i wr => ∃ k : Nat, k ≤ N ∧ i = .int .i64 k ∧ wr.ownsRow w.heap.size 24 1 v k (u32s (wordsS d a.toNat k)) ∧ Below w.heap.size w wr) (fun _ _ i _ => N - (intOf i).toNat)
      case atStart => exact ⟨0, Nat.zero_le _, rfl, World.ownsRow_nil _ _ _ _, Below.refl _ _⟩
      case round =>
        obtain ⟨k, hk, rfl, hown, hbl⟩ := hrel
        by_cases hlt : k < N
        · have hmem : MemAt wr m g d := H.out.keep (Only.of_below (S := fun _ => False) hbl) id id
          have q2 : k + 1 ≤ maxLen := by unfold maxLen; omega
          have q3 : (k + 1) * 4 ≤ 140737488355328 := by omega
          have q4 := hbl.size
          have q5 : w.heap.size ≤ wr.heap.size + 1 := by omega
          have hx := loadS_bd H.out.bytes (a.toNat + 4 * k) 4
          have hwd := mword_any wr m g d hmem (a.toNat + 4 * k) 4 (4 * N - 4 * k) (by omega) (by omega)
          rw [beS_four] at hwd
          have hsu := wordsS_succ d a.toNat k
          have HSU := mhid hsu
          have HW := mhid hwd
          have HB := mhid hbl
          clear hsu hwd hmem hbl
          generalize loadS d (a.toNat + 4 * k) 4 = x at hx HSU HW
          have hk4 : (k : Int) < N := by omega
          go_wp2_with fail
          refine HW.out.mono ?_
          rintro e w' ⟨rfl, rfl⟩
          clear HW
          go_wp2_with (at_builtin; refine wpList_append_own _ rfl _ _ 22 rfl w.heap.size 24 i0 (.int .u32 0) 1 4 Tryz.underlying22 hi hz0 hz1 hz2 rfl (by decide) _ k (u32s (wordsS d a.toNat k)) rfl (hown.alloc _) ⟨wr.heap.size, 0, none⟩ 1 1 [.int .u32 x] rfl rfl (cell_one_new _ _ _) (by simp [Value.oneCell']) q2 q3 (by simpa using q5) ?_; intro v' w1 hown1 hgrow1 hnil)
          have hb1 : Below w.heap.size w w1 := (HB.out.alloc q4 _).grown hgrow1 (by simpa using q5) (fun r e => ((hown.alloc (.cells #[.int .u32 x] 24)).lt r e).1)
          go_roundw
          case rel => exact ⟨k + 1, by omega, by go_num, by rw [HSU.out]; simpa [u32s] using hown1, hb1⟩
          case measure => simp [intOf] <;> omega
        · obtain rfl : k = N := by omega
          go_wp2_with fail
          go_ret2
          exact ⟨_, wordsS d a.toNat k, tell_ret HE.out.symm, by rw [if_pos HE.out]; rfl, by rw [wordsS_len]; exact hown, hbl⟩
  · clear HS
    have HE := mhid he
    clear he
    go_wp2_with fail
    go_rounds 1
    go_ret2
    exact ⟨_, [], rfl, by rw [if_neg HE.out], own_nil _ _, Below.refl _ _⟩
end Go.Proofs.YtajholbcpmjhiaaGreatDoor
/- The plain law of muntinlaw05.MemApart and MemWords: words stored apart, rows put at once. -/
namespace Go.Proofs.YtajholbcpmjhiaaGreatDoor
open Go.RowKit
theorem spanE_word (n a : Nat) (h : a % 4 = 0) (h2 : a + 4 ≤ n) : spanE n a 1 4 = 0 := by
  unfold spanE; rw [if_neg (by omega), if_neg (by omega), if_neg (by omega)]
theorem storeV_word (d : List Int) (a : Nat) (x : Int) (h : a % 4 = 0) (h2 : a + 4 ≤ d.length) : storeV d a 4 x = storeS d a 4 x := by
  unfold storeV; rw [if_pos (spanE_word _ _ h h2)]; rfl
theorem store_byte_in (d : List Int) (a j : Nat) (x : Int) (hj : j < 4) (h2 : a + 4 ≤ d.length) : (storeS d a 4 x).getD (a + j) 0 = x / 256 ^ (3 - j) % 256 := by
  simp only [storeS]; rw [if_pos trivial]
  have hc : j = 0 ∨ j = 1 ∨ j = 2 ∨ j = 3 := by omega
  rcases hc with rfl | rfl | rfl | rfl
  · show List.getD _ a 0 = _
    rw [getD_set_eq _ _ _ (by simp; omega)]; (try simp)
  · rw [getD_set_ne _ _ _ _ (by omega), getD_set_eq _ _ _ (by simp; omega)]; (try simp)
  · rw [getD_set_ne _ _ _ _ (by omega), getD_set_ne _ _ _ _ (by omega), getD_set_eq _ _ _ (by simp; omega)]; (try simp)
  · rw [getD_set_ne _ _ _ _ (by omega), getD_set_ne _ _ _ _ (by omega), getD_set_ne _ _ _ _ (by omega), getD_set_eq _ _ _ (by omega)]; (try simp)
theorem store_byte_out (d : List Int) (a i : Nat) (x : Int) (h : ¬ (a ≤ i ∧ i < a + 4)) : (storeS d a 4 x).getD i 0 = d.getD i 0 := by
  simp only [storeS]; rw [if_pos trivial, getD_set_ne _ _ _ _ (by omega), getD_set_ne _ _ _ _ (by omega), getD_set_ne _ _ _ _ (by omega), getD_set_ne _ _ _ _ (by omega)]
theorem load_store (d : List Int) (a : Nat) (x : Int) (ha : a + 4 ≤ d.length) (hx : 0 ≤ x) (hx2 : x < 4294967296) : loadS (storeS d a 4 x) a 4 = x := by
  have b0 := store_byte_in d a 0 x (by omega) ha
  have b1 := store_byte_in d a 1 x (by omega) ha
  have b2 := store_byte_in d a 2 x (by omega) ha
  have b3 := store_byte_in d a 3 x (by omega) ha
  unfold loadS; rw [if_pos rfl]; rw [Nat.add_zero] at b0; rw [b0, b1, b2, b3]; simp; omega
theorem load_store_ne (d : List Int) (a b : Nat) (x : Int) (h : a + 4 ≤ b ∨ b + 4 ≤ a) : loadS (storeS d a 4 x) b 4 = loadS d b 4 := by
  unfold loadS; rw [if_pos rfl, if_pos rfl, store_byte_out _ _ _ _ (by omega), store_byte_out _ _ _ _ (by omega), store_byte_out _ _ _ _ (by omega), store_byte_out _ _ _ _ (by omega)]
theorem wordsS_at (d : List Int) (a n i : Nat) (h : i < n) : (wordsS d a n).getD i 0 = loadS d (a + 4 * i) 4 := by
  simp [wordsS, List.getD_eq_getElem?_getD, h]
theorem spanE_row (n a k : Nat) (h : a % 4 = 0) (h2 : a + 4 * k ≤ n) : spanE n a k 4 = 0 := by
  unfold spanE; rw [if_neg (by omega), if_neg (by omega), if_neg (by omega)]
end Go.Proofs.YtajholbcpmjhiaaGreatDoor
/- Plain law: how a machine goes on where its memory has an instruction. No program in sight. -/
namespace Go.Proofs.YtajholbcpmjhiaaGreatDoor
open Go.RowKit
structure CodeAt (d : List Int) (a : Nat) (x : Ix) : Prop where
  al : a % 4 = 0
  lt : a + 4 ≤ d.length
  wd : loadS d a 4 = wordS x
  may : mayP x
  bd : x.bd
theorem span_in {n a : Nat} (h : a % 4 = 0) (h2 : a + 4 ≤ n) : spanE n (a : Int) 1 4 = 0 := by
  unfold spanE; rw [if_neg (by omega), if_neg (by omega), if_neg (by omega)]
theorem loadV_in {d : List Int} {a : Nat} (h : a % 4 = 0) (h2 : a + 4 ≤ d.length) : loadV d (a : Int) 4 = loadS d a 4 := by
  unfold loadV; rw [if_pos (span_in h h2)]; rfl
theorem step_code {m : Mx} {x : Ix} {level : Int} {a : Nat} (hk : m.kind = 0) (hl : ¬ (level < 16 ∧ m.p.pil < level)) (hp : m.pc = (a : Int)) (hc : CodeAt m.mem a x) : stepM m level = opS m x (getM m x.rs1) (sndM m x) := by
  obtain ⟨h1, h2, h3, h4, h5⟩ := hc
  have e : loadV m.mem m.pc 4 = wordS x := by rw [hp, loadV_in h1 h2, h3]
  have hd := dec_enc h5 h4
  have ha : atM m = x := by unfold atM; rw [e]; exact hd.2
  unfold stepM
  rw [if_neg (by omega), if_neg hl]
  unfold runM
  rw [if_neg (by unfold noneAt; rw [e, hp, span_in h1 h2, hd.1]; simp), ha]
theorem CodeAt.store {d : List Int} {a b : Nat} {x : Ix} (h : CodeAt d a x) (y : Int) (hb : a + 4 ≤ b ∨ b + 4 ≤ a) : CodeAt (storeS d b 4 y) a x := by
  obtain ⟨h1, h2, h3, h4, h5⟩ := h
  exact ⟨h1, by rw [storeS_len]; exact h2, by rw [load_store_ne _ _ _ _ (by omega)]; exact h3, h4, h5⟩
theorem CodeAt.new {d : List Int} {a : Nat} {x : Ix} (h : a % 4 = 0) (h2 : a + 4 ≤ d.length) (hb : x.bd) (hm : mayP x) : CodeAt (storeS d a 4 (wordS x)) a x :=
  ⟨h, by rw [storeS_len]; exact h2, load_store _ _ _ h2 (Int.le_of_lt (word_bd hb hm).1) (word_bd hb hm).2, hm, hb⟩
end Go.Proofs.YtajholbcpmjhiaaGreatDoor
/- Plain law: runs of instructions in the bank 16, one by one. No program in sight. -/
namespace Go.Proofs.YtajholbcpmjhiaaGreatDoor
open Go.RowKit
def Path (P : Mx → Prop) : Nat → Mx → Mx → Prop
  | 0, m, m' => m = m'
  | k + 1, m, m' => P m ∧ Path P k (stepM m 0) m'
theorem Path.trans {P : Mx → Prop} {b c : Mx} {k : Nat} : ∀ {j : Nat} {a : Mx}, Path P j a b → Path P k b c → Path P (j + k) a c
  | 0, a, h1, h2 => by rw [show a = b from h1, Nat.zero_add]; exact h2
  | j + 1, a, h1, h2 => by
    rw [show j + 1 + k = (j + k) + 1 by omega]
    exact ⟨h1.1, Path.trans h1.2 h2⟩
theorem Path.mono {P Q : Mx → Prop} (h : ∀ m, P m → Q m) {b : Mx} : ∀ {k : Nat} {a : Mx}, Path P k a b → Path Q k a b
  | 0, _, h1 => h1
  | k + 1, _, h1 => ⟨h _ h1.1, Path.mono h h1.2⟩
def Clean (m : Mx) : Prop := ∃ (a : Nat) (x : Ix), m.pc = (a : Int) ∧ 256 ≤ a ∧ CodeAt m.mem a x ∧ (22 ≤ x.op → x.op ≤ 25 → 64 ≤ u32 (getM m x.rs1 + sndM m x))
def PH (m : Mx) : Prop := m.kind = 0 ∧ m.p.bank = 16 ∧ Clean m
structure He where
  nw : Nat
  G0 : List Int
  pil : Int
  tpsr : List Int
  out : List Int
  v : Int
  lo : Nat
  L : List Ix
structure Hn where
  win : List Int
  g : List Int
  mem : List Int
  i : Nat
  wim : Int
  cwp : Nat
  fl : Int
  tpc : List Int
  ch : List Int
def hm (E : He) (s : Hn) : Mx := ⟨⟨E.nw, s.win, E.G0 ++ s.g⟩, s.mem, ((E.lo + 4 * s.i : Nat) : Int), s.wim, ⟨s.cwp, E.pil, 16, s.fl⟩, s.tpc, E.tpsr, s.ch, E.out, 0, E.v⟩
def Codes (d : List Int) (lo : Nat) (L : List Ix) : Prop := ∀ i x, L[i]? = some x → CodeAt d (lo + 4 * i) x
structure Hs (E : He) (s : Hn) : Prop where
  g0 : E.G0.length = 128
  g : s.g.length = 8
  ok : (hm E s).ok
  lo : 256 ≤ E.lo
  code : Codes s.mem E.lo E.L
def rg (E : He) (s : Hn) (r : Nat) : Int := if r = 0 then 0 else if r < 8 then s.g.getD r 0 else if r < 16 then s.win.getD (16 * ((s.cwp + E.nw - 1) % E.nw) + r) 0 else s.win.getD (16 * s.cwp + (r - 16)) 0
def sr (E : He) (s : Hn) (r : Nat) (x : Int) : Hn := if r = 0 then s else if r < 8 then { s with g := s.g.set r x } else if r < 16 then { s with win := s.win.set (16 * ((s.cwp + E.nw - 1) % E.nw) + r) x } else { s with win := s.win.set (16 * s.cwp + (r - 16)) x }
theorem rg_eq {E : He} {s : Hn} (h : Hs E s) (r : Nat) : getM (hm E s) r = rg E s r := by
  have hg := h.g0
  unfold getM getF rg hm
  simp only [Int.toNat_natCast]
  split
  · rfl
  split
  · have e : (Int.toNat 16) * 8 + r = 128 + r := by rw [show Int.toNat 16 = 16 from rfl]
    rw [e, List.getD_eq_getElem?_getD, List.getElem?_append_right (by omega), hg, List.getD_eq_getElem?_getD, show 128 + r - 128 = r by omega]
  split
  · rfl
  · rfl
theorem sr_eq {E : He} {s : Hn} (h : Hs E s) (r : Nat) (x : Int) : setM (hm E s) r x = hm E (sr E s r x) := by
  have hg := h.g0
  unfold setM setF sr
  simp only [Int.toNat_natCast]
  by_cases h0 : r = 0
  · rw [if_pos h0, if_pos h0]
  rw [if_neg h0, if_neg h0]
  by_cases h8 : r < 8
  · rw [if_pos h8, if_pos h8]
    unfold hm
    simp only
    have e : (Int.toNat 16) * 8 + r = 128 + r := by rw [show Int.toNat 16 = 16 from rfl]
    rw [e, List.set_append_right _ _ (by omega), hg, show 128 + r - 128 = r by omega]
  rw [if_neg h8, if_neg h8]
  by_cases h16 : r < 16
  · rw [if_pos h16, if_pos h16]; rfl
  · rw [if_neg h16, if_neg h16]; rfl
def nx (s : Hn) : Hn := { s with i := s.i + 1 }
def ex (E : He) (x : Ix) (s : Hn) : Hn :=
  let a := rg E s x.rs1.toNat
  let b := if x.is = true then u32 x.imm else rg E s x.rs2.toNat
  if x.op ≤ 14 then nx (sr E s x.rd.toNat (doW (x.op - 1).toNat a b))
  else if x.op = 15 then nx (sr E s x.rd.toNat (u32 (b * 2048)))
  else if x.op = 16 then nx { s with fl := flagsS a b }
  else if x.op = 17 then (if holdsS x.rd.toNat s.fl = true then { s with i := ((s.i : Int) + x.imm).toNat } else nx s)
  else if x.op = 22 then nx (sr E s x.rd.toNat (loadS s.mem (u32 (a + b)).toNat 4))
  else if x.op = 23 then nx { s with mem := storeS s.mem (u32 (a + b)).toNat 4 (rg E s x.rd.toNat) }
  else if x.op = 26 then nx (sr E s x.rd.toNat (packW ⟨s.cwp, E.pil, 16, s.fl⟩))
  else if x.op = 27 then nx { s with cwp := (u32 (a + b) % 32).toNat, fl := u32 (a + b) / 16384 % 16 }
  else if x.op = 28 then nx (sr E s x.rd.toNat s.wim)
  else if x.op = 29 then nx { s with wim := u32 (a + b) }
  else if x.op = 30 then nx (sr E s x.rd.toNat (s.tpc.getD 16 0))
  else if x.op = 31 then nx { s with tpc := s.tpc.set 16 a }
  else nx (sr E { s with ch := s.ch.tail } x.rd.toNat (s.ch.headD 0))
def addrOk (d : List Int) (A : Int) : Prop := 64 ≤ A ∧ A % 4 = 0 ∧ A + 4 ≤ d.length
def okx (E : He) (x : Ix) (s : Hn) : Prop :=
  let a := rg E s x.rs1.toNat
  let b := if x.is = true then u32 x.imm else rg E s x.rs2.toNat
  if x.op ≤ 14 then 1 ≤ x.op ∧ doB (x.op - 1).toNat b = true
  else if x.op = 15 then True
  else if x.op = 16 then True
  else if x.op = 17 then x.is = true ∧ 0 ≤ (s.i : Int) + x.imm ∧ (s.i : Int) + x.imm ≤ E.L.length
  else if x.op = 22 then addrOk s.mem (u32 (a + b))
  else if x.op = 23 then addrOk s.mem (u32 (a + b)) ∧ (u32 (a + b) + 4 ≤ E.lo ∨ ((E.lo + 4 * E.L.length : Nat) : Int) ≤ u32 (a + b))
  else if x.op = 26 then True
  else if x.op = 27 then (u32 (a + b) < 262144 ∧ u32 (a + b) % 32 < E.nw) ∧ u32 (a + b) / 32 % 16 = E.pil ∧ u32 (a + b) / 512 % 32 = 16
  else if x.op = 28 then True
  else if x.op = 29 then invE (u32 (a + b)) E.nw = 0
  else if x.op = 30 then x.imm = 0
  else if x.op = 31 then x.imm = 0
  else x.op = 34
theorem Codes.store {d : List Int} {lo : Nat} {L : List Ix} (h : Codes d lo L) (a : Nat) (y : Int) (ha : a + 4 ≤ lo ∨ lo + 4 * L.length ≤ a) : Codes (storeS d a 4 y) lo L := fun i x hx => by
  have := (List.getElem?_eq_some_iff.1 hx).1
  exact (h i x hx).store y (by omega)
theorem onM_hm {E : He} {s : Hn} (h : E.lo + 4 * s.i + 4 < 4294967296) : onM (hm E s) = hm E (nx s) := by
  unfold onM hm nx
  simp only
  have : u32 (((E.lo + 4 * s.i : Nat) : Int) + 4) = ((E.lo + 4 * (s.i + 1) : Nat) : Int) := by unfold u32; omega
  rw [this]
theorem sr_i (E : He) (s : Hn) (r : Nat) (x : Int) : (sr E s r x).i = s.i ∧ (sr E s r x).mem = s.mem ∧ (sr E s r x).g.length = s.g.length := by
  unfold sr
  split
  · exact ⟨rfl, rfl, rfl⟩
  split
  · exact ⟨rfl, rfl, by simp⟩
  split
  · exact ⟨rfl, rfl, rfl⟩
  · exact ⟨rfl, rfl, rfl⟩
theorem ex_step {E : He} {s : Hn} {x : Ix} (h : Hs E s) (hx : E.L[s.i]? = some x) (ho : okx E x s) : PH (hm E s) ∧ stepM (hm E s) 0 = hm E (ex E x s) ∧ Hs E (ex E x s) := by
  have hc := h.code _ _ hx
  have hsize : E.lo + 4 * s.i + 4 < 4294967296 := by have := hc.lt; have := h.ok.mlen; simp only [hm] at this; omega
  have hlen : s.i < E.L.length := (List.getElem?_eq_some_iff.1 hx).1
  have hend : E.lo + 4 * E.L.length < 4294967296 := by
    have h1 := h.code (E.L.length - 1) _ (List.getElem?_eq_getElem (by omega))
    have := h1.lt; have := h.ok.mlen; simp only [hm] at this; omega
  obtain ⟨⟨o0, o1⟩, ⟨d0, d1⟩, ⟨a0, a1⟩, ⟨b0, b1⟩, ⟨i0, i1⟩⟩ := hc.bd
  have hmlen : s.mem.length ≤ 4194304 := h.ok.mlen
  have ea : getM (hm E s) x.rs1 = rg E s x.rs1.toNat := by rw [← rg_eq h, Int.toNat_of_nonneg a0]
  have eb : sndM (hm E s) x = if x.is = true then u32 x.imm else rg E s x.rs2.toNat := by
    unfold sndM
    rw [← rg_eq h, Int.toNat_of_nonneg b0]
  have ed : getM (hm E s) x.rd = rg E s x.rd.toNat := by rw [← rg_eq h, Int.toNat_of_nonneg d0]
  have es : ∀ (t : Hn) (y : Int), Hs E t → setM (hm E t) x.rd y = hm E (sr E t x.rd.toNat y) := fun t y ht => by rw [← sr_eq ht, Int.toNat_of_nonneg d0]
  have hst := step_code (level := 0) (show (hm E s).kind = 0 from rfl) (by show ¬ (0 < 16 ∧ E.pil < 0); have : 0 ≤ E.pil := h.ok.pb.2.1.1; omega) (show (hm E s).pc = ((E.lo + 4 * s.i : Nat) : Int) from rfl) hc
  rw [ea, eb] at hst
  have hcl : (22 ≤ x.op → x.op ≤ 25 → 64 ≤ u32 (getM (hm E s) x.rs1 + sndM (hm E s) x)) → PH (hm E s) := fun hh => ⟨rfl, rfl, _, x, rfl, by have := h.lo; omega, hc, hh⟩
  rw [ea, eb] at hcl
  have hok := stepM_ok h.ok (level := 0) (by omega)
  suffices hh : stepM (hm E s) 0 = hm E (ex E x s) ∧ (ex E x s).g.length = 8 ∧ Codes (ex E x s).mem E.lo E.L ∧ PH (hm E s) by
    obtain ⟨h1, h2, h3, h4⟩ := hh
    exact ⟨h4, h1, h.g0, h2, by rw [← h1]; exact hok, h.lo, h3⟩
  rw [hst]
  clear hst hok
  unfold okx at ho
  unfold ex opS
  simp only at ho ⊢
  generalize rg E s x.rs1.toNat = a at *
  generalize (if x.is = true then u32 x.imm else rg E s x.rs2.toNat) = b at *
  have hon := onM_hm hsize
  have honr : ∀ (y : Int), onM (hm E (sr E s x.rd.toNat y)) = hm E (nx (sr E s x.rd.toNat y)) := fun y => onM_hm (by rw [(sr_i E s _ y).1]; exact hsize)
  have hgr : ∀ (y : Int), (nx (sr E s x.rd.toNat y)).g.length = 8 ∧ Codes (nx (sr E s x.rd.toNat y)).mem E.lo E.L := fun y => ⟨((sr_i E s _ y).2.2).trans h.g, by show Codes (sr E s _ y).mem _ _; rw [(sr_i E s _ y).2.1]; exact h.code⟩
  by_cases h14 : x.op ≤ 14
  · rw [if_pos h14] at ho ⊢
    rw [if_pos h14, if_pos ho.2, es s _ h, honr]
    exact ⟨rfl, (hgr _).1, (hgr _).2, hcl (fun _ _ => by omega)⟩
  rw [if_neg h14] at ho ⊢
  rw [if_neg h14]
  by_cases h15 : x.op = 15
  · rw [if_pos h15] at ho ⊢
    rw [if_pos h15, es s _ h, honr]
    exact ⟨rfl, (hgr _).1, (hgr _).2, hcl (fun _ _ => by omega)⟩
  rw [if_neg h15] at ho ⊢
  rw [if_neg h15]
  by_cases h16 : x.op = 16
  · rw [if_pos h16] at ho ⊢
    rw [if_pos h16]
    exact ⟨onM_hm (s := { s with fl := flagsS a b }) hsize, h.g, h.code, hcl (fun _ _ => by omega)⟩
  rw [if_neg h16] at ho ⊢
  by_cases h17 : x.op = 17
  · rw [if_pos h17] at ho ⊢
    rw [if_neg h16, if_pos h17]
    have hb : b = u32 x.imm := by
      rw [← eb]; unfold sndM; rw [if_pos ho.1]
    by_cases hh : holdsS x.rd.toNat s.fl = true
    · rw [if_pos (show holdsS x.rd.toNat (hm E s).p.flags = true from hh), if_pos hh]
      refine ⟨?_, h.g, h.code, hcl (fun _ _ => by omega)⟩
      unfold hm
      simp only
      have : u32 (((E.lo + 4 * s.i : Nat) : Int) + 4 * b) = ((E.lo + 4 * ((s.i : Int) + x.imm).toNat : Nat) : Int) := by
        rw [hb]; unfold u32; omega
      rw [this]
    · rw [if_neg (show ¬ holdsS x.rd.toNat (hm E s).p.flags = true from hh), if_neg hh]
      exact ⟨hon, h.g, h.code, hcl (fun _ _ => by omega)⟩
  rw [if_neg h17] at ho ⊢
  by_cases h22 : x.op = 22
  · rw [if_pos h22] at ho ⊢
    rw [if_neg h16, if_neg h17, if_neg (by omega), if_neg (by omega), if_neg (by omega), if_neg (by omega), if_pos h22]
    obtain ⟨q1, q2, q3⟩ := ho
    have hsp : spanE s.mem.length (u32 (a + b)) 1 4 = 0 := by
      have := span_in (n := s.mem.length) (a := (u32 (a + b)).toNat) (by omega) (by omega)
      rwa [Int.toNat_of_nonneg (by omega)] at this
    unfold loadM loadV
    rw [if_pos (show spanE (hm E s).mem.length _ 1 4 = 0 from hsp), if_pos (show spanE (hm E s).mem.length _ 1 4 = 0 from hsp), es s _ h, honr]
    exact ⟨rfl, (hgr _).1, (hgr _).2, hcl (fun _ _ => q1)⟩
  rw [if_neg h22] at ho ⊢
  by_cases h23 : x.op = 23
  · rw [if_pos h23] at ho ⊢
    rw [if_neg h16, if_neg h17, if_neg (by omega), if_neg (by omega), if_neg (by omega), if_neg (by omega), if_neg h22, if_pos h23]
    obtain ⟨⟨q1, q2, q3⟩, q4⟩ := ho
    have hsp : spanE s.mem.length (u32 (a + b)) 1 4 = 0 := by
      have := span_in (n := s.mem.length) (a := (u32 (a + b)).toNat) (by omega) (by omega)
      rwa [Int.toNat_of_nonneg (by omega)] at this
    unfold storeM storeV
    rw [if_pos (show spanE (hm E s).mem.length _ 1 4 = 0 from hsp), if_pos (show spanE (hm E s).mem.length _ 1 4 = 0 from hsp), ed]
    exact ⟨onM_hm (s := { s with mem := storeS s.mem (u32 (a + b)).toNat 4 (rg E s x.rd.toNat) }) hsize, h.g, h.code.store _ _ (by omega), hcl (fun _ _ => q1)⟩
  rw [if_neg h23] at ho ⊢
  by_cases h26 : x.op = 26
  · rw [if_pos h26] at ho ⊢
    rw [if_neg h16, if_neg h17, if_neg (by omega), if_neg (by omega), if_neg (by omega), if_neg (by omega), if_neg h22, if_neg h23, if_neg (by omega), if_neg (by omega), if_pos h26]
    have hp : packS (hm E s).p (hm E s).nw = packW ⟨s.cwp, E.pil, 16, s.fl⟩ := by unfold packS; rw [if_pos ⟨h.ok.win, h.ok.pm⟩]; rfl
    rw [hp, es s _ h, honr]
    exact ⟨rfl, (hgr _).1, (hgr _).2, hcl (fun _ _ => by omega)⟩
  rw [if_neg h26] at ho ⊢
  by_cases h27 : x.op = 27
  · rw [if_pos h27] at ho ⊢
    rw [if_neg h16, if_neg h17, if_neg (by omega), if_neg (by omega), if_neg (by omega), if_neg (by omega), if_neg h22, if_neg h23, if_neg (by omega), if_neg (by omega), if_neg h26, if_pos h27]
    obtain ⟨⟨q1, q2⟩, q3, q4⟩ := ho
    have hu := u32_bd (a + b)
    generalize u32 (a + b) = y at *
    have hun : unOk y (hm E s).nw := by
      refine ⟨q1, ?_⟩
      show pmayP ⟨y % 32, y / 32 % 16, y / 512 % 32, y / 16384 % 16⟩ (E.nw : Int)
      unfold pmayP
      simp only
      omega
    unfold unE unS
    rw [if_pos h.ok.win, if_pos hun, if_pos rfl, if_pos ⟨h.ok.win, hun⟩]
    refine ⟨?_, h.g, h.code, hcl (fun _ _ => by omega)⟩
    rw [← onM_hm (s := { s with cwp := (y % 32).toNat, fl := y / 16384 % 16 }) hsize]
    have : unW y = ⟨((y % 32).toNat : Nat), E.pil, 16, y / 16384 % 16⟩ := by
      unfold unW
      rw [q3, q4, Int.toNat_of_nonneg (by omega)]
    rw [this]
    rfl
  rw [if_neg h27] at ho ⊢
  by_cases h28 : x.op = 28
  · rw [if_pos h28] at ho ⊢
    rw [if_neg h16, if_neg h17, if_neg (by omega), if_neg (by omega), if_neg (by omega), if_neg (by omega), if_neg h22, if_neg h23, if_neg (by omega), if_neg (by omega), if_neg h26, if_neg h27, if_pos h28]
    rw [show (hm E s).wim = s.wim from rfl, es s _ h, honr]
    exact ⟨rfl, (hgr _).1, (hgr _).2, hcl (fun _ _ => by omega)⟩
  rw [if_neg h28] at ho ⊢
  by_cases h29 : x.op = 29
  · rw [if_pos h29] at ho ⊢
    rw [if_neg h16, if_neg h17, if_neg (by omega), if_neg (by omega), if_neg (by omega), if_neg (by omega), if_neg h22, if_neg h23, if_neg (by omega), if_neg (by omega), if_neg h26, if_neg h27, if_neg h28, if_pos h29]
    rw [if_pos (show invE (u32 (a + b)) (hm E s).nw = 0 from ho)]
    exact ⟨onM_hm (s := { s with wim := u32 (a + b) }) hsize, h.g, h.code, hcl (fun _ _ => by omega)⟩
  rw [if_neg h29] at ho ⊢
  by_cases h30 : x.op = 30
  · rw [if_pos h30] at ho ⊢
    rw [if_neg h16, if_neg h17, if_neg (by omega), if_neg (by omega), if_neg (by omega), if_neg (by omega), if_neg h22, if_neg h23, if_neg (by omega), if_neg (by omega), if_neg h26, if_neg h27, if_neg h28, if_neg h29, if_pos h30]
    rw [if_neg (show ¬ (hm E s).p.bank = 0 from by show ¬ (16 : Int) = 0; omega), if_neg (by omega)]
    rw [show (hm E s).tpc.getD (hm E s).p.bank.toNat 0 = s.tpc.getD 16 0 from rfl, es s _ h, honr]
    exact ⟨rfl, (hgr _).1, (hgr _).2, hcl (fun _ _ => by omega)⟩
  rw [if_neg h30] at ho ⊢
  by_cases h31 : x.op = 31
  · rw [if_pos h31] at ho ⊢
    rw [if_neg h16, if_neg h17, if_neg (by omega), if_neg (by omega), if_neg (by omega), if_neg (by omega), if_neg h22, if_neg h23, if_neg (by omega), if_neg (by omega), if_neg h26, if_neg h27, if_neg h28, if_neg h29, if_neg h30, if_pos h31]
    rw [if_neg (show ¬ (hm E s).p.bank = 0 from by show ¬ (16 : Int) = 0; omega), if_neg (by omega)]
    exact ⟨onM_hm (s := { s with tpc := s.tpc.set 16 a }) hsize, h.g, h.code, hcl (fun _ _ => by omega)⟩
  rw [if_neg h31] at ho ⊢
  rw [if_neg h16, if_neg h17, if_neg (by omega), if_neg (by omega), if_neg (by omega), if_neg (by omega), if_neg h22, if_neg h23, if_neg (by omega), if_neg (by omega), if_neg h26, if_neg h27, if_neg h28, if_neg h29, if_neg h30, if_neg h31, if_neg (by omega), if_neg (by omega), if_pos ho]
  have hch : Hs E { s with ch := s.ch.tail } := ⟨h.g0, h.g, chM_ok h.ok (tail_words h.ok.cw), h.lo, h.code⟩
  have e1 : ({ hm E s with ch := (hm E s).ch.tail } : Mx) = hm E { s with ch := s.ch.tail } := rfl
  rw [e1, show (hm E s).ch.headD 0 = s.ch.headD 0 from rfl, es _ _ hch, onM_hm (by rw [(sr_i E _ _ _).1]; exact hsize)]
  exact ⟨rfl, ((sr_i E _ _ _).2.2).trans h.g, by show Codes (sr E _ _ _).mem _ _; rw [(sr_i E _ _ _).2.1]; exact h.code, hcl (fun _ _ => by omega)⟩
def Hp (E : He) (k : Nat) (s s' : Hn) : Prop := Hs E s → Path PH k (hm E s) (hm E s') ∧ Hs E s'
theorem Hp.trans {E : He} {j k : Nat} {a b c : Hn} (h1 : Hp E j a b) (h2 : Hp E k b c) : Hp E (j + k) a c := fun h => ⟨(h1 h).1.trans (h2 (h1 h).2).1, (h2 (h1 h).2).2⟩
theorem Hp.refl (E : He) (s : Hn) : Hp E 0 s s := fun h => ⟨rfl, h⟩
theorem Hp.step {E : He} {k : Nat} {s t s' : Hn} {x : Ix} (hx : E.L[s.i]? = some x) (ho : okx E x s) (ht : ex E x s = t) (h : Hp E k t s') : Hp E (k + 1) s s' := fun hs => by
  obtain ⟨h1, h2, h3⟩ := ex_step hs hx ho
  rw [ht] at h2 h3
  exact ⟨⟨h1, by rw [h2]; exact (h h3).1⟩, (h h3).2⟩
end Go.Proofs.YtajholbcpmjhiaaGreatDoor
/- Walks of the package inst: has, bounds, may, Encode. -/
namespace Go.Proofs.YtajholbcpmjhiaaGreatDoor
open Go.RowKit
theorem ihid {p : Prop} (h : p) : Hid p := h
theorem iret {k : IntKind} {a b : Int} (h : a = b) : Ending.returned (.int k a) = .returned (.int k b) := by rw [h]
theorem iret2 {k l : IntKind} {a b c d : Int} (h : a = b) (g : c = d) : Ending.returned (.tuple #[.int k a, .int l c]) = .returned (.tuple #[.int k b, .int l d]) := by rw [h, g]
theorem iretb {a b : Bool} (h : a = b) : Ending.returned (.bool a) = .returned (.bool b) := by rw [h]
def Tab (w : World) : Prop := ∀ i : Nat, i < 38 → w.cell? ⟨0, i, none⟩ = some (.int .u8 (hasK (kindS i)))
theorem Tab.keep {w w' : World} (h : Tab w) (hb : Below w.heap.size w w') : Tab w' := fun i hi => by
  have h1 := h i hi
  exact (hb.cell (p := ⟨0, i, none⟩) (World.block_lt_of_cell? _ _ h1)).trans h1
set_option maxRecDepth 100000 in
theorem ihas_any (op h : Int) (h0 : 0 ≤ op) (h1 : op < 256) (hv : hasK (kindS op) = h) (w : World) (ht : Tab w) : Calls Tryz.prog 134 #[.int .u8 op] w fun e w' => e = .returned (.int .u8 h) ∧ w = w' := by
  obtain ⟨n, rfl⟩ := Int.eq_ofNat_of_zero_le h0
  by_cases hn : n < 38
  · have hc := ht n hn
    rw [hv] at hc
    have hn2 : (n : Int) < 38 := by omega
    clear ht hv
    go_enter Tryz.func134, Tryz.ntmps134
    go_wp2
    go_ret
    exact ⟨rfl, rfl⟩
  · have hn2 : (38 : Int) ≤ n := by omega
    have E := ihid (show h = 128 by rw [← hv, kind_no (by omega)]; rfl)
    clear ht hv hn
    go_enter Tryz.func134, Tryz.ntmps134
    go_wp2
    go_ret
    exact ⟨iret E.out.symm, rfl⟩
def lowS (op : Int) : Int := if op = 15 then 0 else if op = 17 ∨ op = 18 then -1048576 else if op = 30 ∨ op = 31 then 0 else if op = 33 then 3 else if op = 37 then 1 else -16384
def highS (op : Int) : Int := if op = 15 then 2097151 else if op = 17 ∨ op = 18 then 1048575 else if op = 30 ∨ op = 31 then 1 else if op = 33 then 4 else if op = 37 then 3 else 16383
set_option maxHeartbeats 400000 in
theorem bounds_any (op lo hi : Int) (hl : lowS op = lo) (hh : highS op = hi) (w : World) : Calls Tryz.prog 191 #[.int .u8 op] w fun e w' => e = .returned (.tuple #[.int .i32 lo, .int .i32 hi]) ∧ w = w' := by
  subst hl hh
  by_cases h : op = 15 ∨ op = 17 ∨ op = 18 ∨ op = 30 ∨ op = 31 ∨ op = 33 ∨ op = 37
  · rcases h with rfl | rfl | rfl | rfl | rfl | rfl | rfl
    all_goals
      go_enter Tryz.func191, Tryz.ntmps191
      go_wp2
      go_ret2
      exact ⟨rfl, rfl⟩
  · have e1 : (op == 15) = false := by simp; omega
    have e2 : (op == 17) = false := by simp; omega
    have e3 : (op == 18) = false := by simp; omega
    have e4 : (op == 30) = false := by simp; omega
    have e5 : (op == 31) = false := by simp; omega
    have e6 : (op == 33) = false := by simp; omega
    have e7 : (op == 37) = false := by simp; omega
    have E := ihid (show lowS op = -16384 ∧ highS op = 16383 from ⟨by unfold lowS; repeat (rw [if_neg (by omega)]), by unfold highS; repeat (rw [if_neg (by omega)])⟩)
    clear h
    go_enter Tryz.func191, Tryz.ntmps191
    go_wp2
    go_ret2
    exact ⟨iret2 E.out.1.symm E.out.2.symm, rfl⟩
theorem low_of {op : Int} (h : kindS op = 1 ∨ kindS op = 2 ∨ kindS op = 6 ∨ kindS op = 10 ∨ kindS op = 12) : (op ≠ 15 ∧ op ≠ 17 ∧ op ≠ 18 ∧ op ≠ 30 ∧ op ≠ 31 ∧ op ≠ 33 ∧ op ≠ 37) ∧ lowS op = -16384 ∧ highS op = 16383 := by
  have hn : op ≠ 15 ∧ op ≠ 17 ∧ op ≠ 18 ∧ op ≠ 30 ∧ op ≠ 31 ∧ op ≠ 33 ∧ op ≠ 37 := by
    refine ⟨?_, ?_, ?_, ?_, ?_, ?_, ?_⟩ <;> (intro e; subst e; simp [kindS] at h)
  exact ⟨hn, by unfold lowS; repeat (rw [if_neg (by omega)]), by unfold highS; repeat (rw [if_neg (by omega)])⟩
theorem may_below (w : World) (a b : Obj) : Below w.heap.size w ((w.alloc a).alloc b) := ((Below.refl _ _).alloc (Nat.le_refl _) _).alloc (by simp) _
theorem may_below2 (w : World) (a b : Obj) : Below w.heap.size w ((w.alloc a).alloc b).drew := (may_below w a b).drew
end Go.Proofs.YtajholbcpmjhiaaGreatDoor
/- A list of instructions with marks, as it lies in the world; what stays when some blocks may change. No function of the program is walked here. -/
namespace Go.Proofs.YtajholbcpmjhiaaGreatDoor
open Go.RowKit Go.Maps
inductive It
  | put (x : Ix)
  | far (x : Ix) (name : ByteArray)
def CloAt (w : World) (K : Nat → Prop) (v : Value) : It → Prop
  | .put x => ∃ c, v = .func (.func 80) #[] #[.pointer (some ⟨c, 0, none⟩)] ∧ K c ∧ w.cell? ⟨c, 0, none⟩ = some (.int .u32 (encS x))
  | .far x name => ∃ c d, v = .func (.func 207) #[] #[.pointer (some ⟨c, 0, none⟩), .pointer (some ⟨d, 0, none⟩)] ∧ K c ∧ K d ∧ w.cell? ⟨c, 0, none⟩ = some (.string name) ∧
      (∀ (i : Nat) (u : Value), x.agg.cells[i]? = some u → w.cell? ⟨d, i, none⟩ = some u) ∧ name.size ≤ maxLen ∧ x.bd
theorem CloAt.keep {S K K' : Nat → Prop} {a b : World} {v : Value} {it : It} (h : CloAt a K v it) (o : Only S a b) (hs : ∀ k, K k → ¬ S k) (hk : ∀ k, k < a.heap.size → K k → K' k) : CloAt b K' v it := by
  cases it with
  | put x =>
    obtain ⟨c, h1, h2, h3⟩ := h
    have hc : c < a.heap.size := World.block_lt_of_cell? _ _ h3
    exact ⟨c, h1, hk c hc h2, (o.cell (p := ⟨c, 0, none⟩) hc (hs c h2)).trans h3⟩
  | far x name =>
    obtain ⟨c, d, h1, h2, h3, h4, h5, h6, h7⟩ := h
    have hc : c < a.heap.size := World.block_lt_of_cell? _ _ h4
    have hd : d < a.heap.size := World.block_lt_of_cell? _ _ (h5 0 (.int .u8 x.op) (by simp [Value.cells]))
    exact ⟨c, d, h1, hk c hc h2, hk d hd h3, (o.cell (p := ⟨c, 0, none⟩) hc (hs c h2)).trans h4, fun i u hu => (o.cell (p := ⟨d, i, none⟩) hd (hs d h3)).trans (h5 i u hu), h6, h7⟩
def look (M : List (List UInt8 × Int)) (nm : List UInt8) : Option Int := (M.find? (fun e => e.1 == nm)).map (·.2)
structure MarkD (D : DataW Unit) (M : List (List UInt8 × Int)) : Prop where
  map : IsMap D
  has : ∀ nm, Maps.has D (.string nm) = (look M nm).isSome
  at' : ∀ nm z, D.atKey (.string nm) z = match look M nm with | some n => .lit (.int .i64 n) | none => z
theorem MarkD.nil : MarkD (.map []) [] := ⟨isMap_empty, fun nm => rfl, fun nm z => rfl⟩
theorem look_snoc (M : List (List UInt8 × Int)) (nm nm' : List UInt8) (n : Int) : look (M ++ [(nm, n)]) nm' = match look M nm' with | some k => some k | none => if nm = nm' then some n else none := by
  unfold look
  rw [List.find?_append]
  cases h : M.find? (fun e => e.1 == nm') with
  | some e => simp
  | none => by_cases he : nm = nm' <;> simp [he]
theorem MarkD.put {D : DataW Unit} {M : List (List UInt8 × Int)} (h : MarkD D M) (nm : List UInt8) (n : Int) (hn : look M nm = none) : MarkD (D.put (.string nm) (.lit (.int .i64 n))) (M ++ [(nm, n)]) := by
  refine ⟨h.map.put _ _, fun nm' => ?_, fun nm' z => ?_⟩
  · rw [look_snoc]
    by_cases he : nm = nm'
    · subst he
      rw [has_put_same h.map (by trivial), hn]; simp
    · rw [has_put_other (by intro e; exact he (by cases e; rfl)), h.has, if_neg he]
      cases look M nm' <;> rfl
  · rw [look_snoc]
    by_cases he : nm = nm'
    · subst he
      rw [atKey_put_same h.map (by trivial), hn]; simp
    · rw [atKey_put_other (by intro e; exact he (by cases e; rfl)), h.at', if_neg he]
      cases look M nm' <;> rfl
structure AsmAt (w : World) (p : Nat) (sv : Value) (m : Nat) (K : Nat → Prop) (L : List It) (M : List (List UInt8 × Int)) : Prop where
  ptr : w.heap[p]? = some (.cells #[sv, .map (some m)] 136 (0, 0))
  row : ∃ vs : List Value, w.ownsRow 0 150 1 sv L.length vs ∧ vs.length = L.length ∧ ∀ (i : Nat) (v : Value) (it : It), vs[i]? = some v → L[i]? = some it → CloAt w K v it
  marks : ∃ D : DataW Unit, w.ownsMap Tryz.prog 9 (plainElem Tryz.prog 3) m M.length D ∧ MarkD D M
  ne : p ≠ m ∧ sv.ownBlock ≠ some p ∧ sv.ownBlock ≠ some m
  apart : ∀ k, K k → k ≠ p ∧ sv.ownBlock ≠ some k ∧ k ≠ m
def Own (p : Nat) (sv : Value) (m : Nat) (k : Nat) : Prop := k = p ∨ sv.ownBlock = some k ∨ k = m
theorem AsmAt.keep {S : Nat → Prop} {a b : World} {p m : Nat} {sv : Value} {K : Nat → Prop} {L : List It} {M : List (List UInt8 × Int)} (h : AsmAt a p sv m K L M) (o : Only S a b) (hs : ∀ k, Own p sv m k → ¬ S k) (hk : ∀ k, K k → ¬ S k) : AsmAt b p sv m K L M := by
  obtain ⟨h1, ⟨vs, h2, h3, h4⟩, ⟨D, ⟨es, cl, hb, F, hz, hD⟩, h6⟩, h7, h8⟩ := h
  refine ⟨o.obj h1 (hs p (.inl rfl)), ⟨vs, ⟨h2.1, ?_⟩, h3, fun i v it hv hi => (h4 i v it hv hi).keep o hk (fun _ _ h => h)⟩, ⟨D, ⟨es, cl, o.obj hb (hs m (.inr (.inr rfl))), F, hz, hD⟩, h6⟩, h7, h8⟩
  rcases h2.2 with h | ⟨g, cap, cur, e1, e2, e3, e4⟩
  · exact .inl h
  · refine .inr ⟨g, cap, cur, e1, e2, o.obj e3 (hs g (.inr (.inl ?_))), e4⟩
    rw [e1]; rfl
theorem AsmAt.trim {w : World} {p m : Nat} {sv : Value} {K : Nat → Prop} {L : List It} {M : List (List UInt8 × Int)} (h : AsmAt w p sv m K L M) : AsmAt w p sv m (fun k => K k ∧ k < w.heap.size) L M := by
  obtain ⟨h1, ⟨vs, h2, h3, h4⟩, h5, h7, h8⟩ := h
  exact ⟨h1, ⟨vs, h2, h3, fun i v it hv hi => (h4 i v it hv hi).keep (Only.refl (fun _ => False) w) (fun _ _ h => h) (fun k hl hk => ⟨hk, hl⟩)⟩, h5, h7, fun k hk => h8 k hk.1⟩
theorem AsmAt.blocks {w : World} {p m : Nat} {sv : Value} {K : Nat → Prop} {L : List It} {M : List (List UInt8 × Int)} (h : AsmAt w p sv m K L M) : p < w.heap.size ∧ m < w.heap.size ∧ ∀ k, sv.ownBlock = some k → k < w.heap.size := by
  obtain ⟨h1, ⟨vs, h2, h3, h4⟩, ⟨D, ⟨es, cl, hb, F, hz, hD⟩, h6⟩, h7, h8⟩ := h
  exact ⟨lt_of_block h1, lt_of_block hb, fun k hk => (h2.lt k hk).2⟩
end Go.Proofs.YtajholbcpmjhiaaGreatDoor
