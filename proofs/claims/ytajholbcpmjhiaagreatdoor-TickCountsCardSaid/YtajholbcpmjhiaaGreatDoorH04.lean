/- Several texts in one: MemWords, MemApartLaw, MachLaw, HandLaw, InstWalks, AsmSpec, AsmWalks, AsmMark. -/
import Derived.Test.YtajholbcpmjhiaaGreatDoorH03
import Derived.BigRegion
import Derived.ChangeAlike
import Derived.Maps.OwnSet
import Derived.Maps.Views
import Derived.Laws.AppendOwnNone
import Derived.WalkArith
set_option linter.unusedVariables false
set_option linter.unusedSimpArgs false
/- The walk of mem.Words. -/
namespace Go.Proofs.YtajholbcpmjhiaaGreatDoor
open Go.RowKit
theorem wordsS_succ (d : List Int) (a k : Nat) : wordsS d a (k + 1) = wordsS d a k ++ [loadS d (a + 4 * k) 4] := by
  unfold wordsS; rw [List.range_succ, List.map_append]; rfl
theorem wordsS_len (d : List Int) (a k : Nat) : (wordsS d a k).length = k := by simp [wordsS]
def Tells (d : List Int) (a n : Int) (w : World) (e : Ending) (w' : World) : Prop :=
  ∃ v l, e = .returned (.tuple #[v, .int .i64 (spanE d.length a n 4)]) ∧ l = (if spanE d.length a n 4 = 0 then wordsS d a.toNat n.toNat else []) ∧ w'.ownsRow w.heap.size 24 1 v l.length (u32s l) ∧ Below w.heap.size w w'
theorem tell_ret {v : Value} {e e' : Int} (h : e = e') : Ending.returned (.tuple #[v, .int .i64 e]) = .returned (.tuple #[v, .int .i64 e']) := by rw [h]
theorem own_nil (w : World) (b : Nat) : w.ownsRow b 24 1 (.slice none 0 0) ([] : List Int).length (u32s []) := World.ownsRow_nil w b _ _
set_option maxHeartbeats 1000000 in
theorem words_any (w : World) (m g : Nat) (d : List Int) (h : MemAt w m g d) (a : Int) (ha : 0 ≤ a) (ha2 : a < 4294967296) (n : Int) (hn : n ≤ 9223372036854775807) :
    Calls Tryz.prog 21 #[.pointer (some ⟨m, 0, none⟩), .int .u32 a, .int .i64 n] w (Tells d a n w) := by
  have hs := span_any w m g d h a n 4 ha ha2 hn
  have HS := mhid hs
  have H := mhid h
  have hlen := h.len
  clear hs h
  obtain ⟨i0, hi, hz0, hz1, hz2⟩ := info_parts info32
  go_enter Tryz.func21, Tryz.ntmps21
  go_wp2_with fail
  refine HS.out.mono ?_
  rintro e w' (⟨he, ⟨v, rfl, b, rfl, hb⟩, rfl⟩ | ⟨he, rfl, rfl⟩)
  · obtain ⟨h3, _, h4, h5⟩ := spanE_ok he ha
    have HE := mhid he
    clear he HS
    obtain ⟨N, rfl⟩ := Int.eq_ofNat_of_zero_le h3
    have hl4 : ((4 * (N : Int)).toNat : Nat) = 4 * N := by omega
    rw [hl4]
    clear hl4 h3 hn
    by_cases h0 : N = 0
    · subst h0
      clear hb
      go_wp2_with fail
      go_rounds 1
      go_ret2
      exact ⟨_, [], tell_ret HE.out.symm, by rw [if_pos HE.out]; rfl, own_nil _ _, Below.refl _ _⟩
    · have hb2 : b = a.toNat := by omega
      subst hb2
      clear hb
      have h0' : 0 < N := by omega
      clear h0
      go_wp2_with fail
      go_loopw [10, 11, 22] (fun v _ i wr => ∃ k : Nat, k ≤ N ∧ i = .int .i64 k ∧ wr.ownsRow w.heap.size 24 1 v k (u32s (wordsS d a.toNat k)) ∧ Below w.heap.size w wr) (fun _ _ i _ => N - (intOf i).toNat)
      case atStart => exact ⟨0, Nat.zero_le _, rfl, World.ownsRow_nil _ _ _ _, Below.refl _ _⟩
      case round =>
        obtain ⟨k, hk, rfl, hown, hbl⟩ := hrel
        by_cases hlt : k < N
        · have hmem : MemAt wr m g d := H.out.keep (Only.of_below (S := fun _ => False) hbl) id id
          have q2 : k + 1 ≤ maxLen := by unfold maxLen; omega
          have q3 : (k + 1) * 4 ≤ 140737488355328 := by omega
          have q4 := hbl.size
          have q5 : w.heap.size ≤ wr.heap.size + 1 := by omega
          have hx := loadS_bd H.out.bytes (a.toNat + 4 * k) 4
          have hwd := mword_any wr m g d hmem (a.toNat + 4 * k) 4 (4 * N - 4 * k) (by omega) (by omega)
          rw [beS_four] at hwd
          have hsu := wordsS_succ d a.toNat k
          have HSU := mhid hsu
          have HW := mhid hwd
          have HB := mhid hbl
          clear hsu hwd hmem hbl
          generalize loadS d (a.toNat + 4 * k) 4 = x at hx HSU HW
          have hk4 : (k : Int) < N := by omega
          go_wp2_with fail
          refine HW.out.mono ?_
          rintro e w' ⟨rfl, rfl⟩
          clear HW
          go_wp2_with (at_builtin; refine wpList_append_own _ rfl _ _ 22 rfl w.heap.size 24 i0 (.int .u32 0) 1 4 Tryz.underlying22 hi hz0 hz1 hz2 rfl (by decide) _ k (u32s (wordsS d a.toNat k)) rfl (hown.alloc _) ⟨wr.heap.size, 0, none⟩ 1 1 [.int .u32 x] rfl rfl (cell_one_new _ _ _) (by simp [Value.oneCell']) q2 q3 (by simpa using q5) ?_; intro v' w1 hown1 hgrow1 hnil)
          have hb1 : Below w.heap.size w w1 := (HB.out.alloc q4 _).grown hgrow1 (by simpa using q5) (fun r e => ((hown.alloc (.cells #[.int .u32 x] 24)).lt r e).1)
          go_roundw
          case rel => exact ⟨k + 1, by omega, by go_num, by rw [HSU.out]; simpa [u32s] using hown1, hb1⟩
          case measure => simp [intOf] <;> omega
        · obtain rfl : k = N := by omega
          go_wp2_with fail
          go_ret2
          exact ⟨_, wordsS d a.toNat k, tell_ret HE.out.symm, by rw [if_pos HE.out]; rfl, by rw [wordsS_len]; exact hown, hbl⟩
  · clear HS
    have HE := mhid he
    clear he
    go_wp2_with fail
    go_rounds 1
    go_ret2
    exact ⟨_, [], rfl, by rw [if_neg HE.out], own_nil _ _, Below.refl _ _⟩
end Go.Proofs.YtajholbcpmjhiaaGreatDoor
/- The plain law of muntinlaw05.MemApart and MemWords: words stored apart, rows put at once. -/
namespace Go.Proofs.YtajholbcpmjhiaaGreatDoor
open Go.RowKit
theorem spanE_word (n a : Nat) (h : a % 4 = 0) (h2 : a + 4 ≤ n) : spanE n a 1 4 = 0 := by
  unfold spanE; rw [if_neg (by omega), if_neg (by omega), if_neg (by omega)]
theorem storeV_word (d : List Int) (a : Nat) (x : Int) (h : a % 4 = 0) (h2 : a + 4 ≤ d.length) : storeV d a 4 x = storeS d a 4 x := by
  unfold storeV; rw [if_pos (spanE_word _ _ h h2)]; rfl
theorem store_byte_in (d : List Int) (a j : Nat) (x : Int) (hj : j < 4) (h2 : a + 4 ≤ d.length) : (storeS d a 4 x).getD (a + j) 0 = x / 256 ^ (3 - j) % 256 := by
  simp only [storeS]; rw [if_pos trivial]
  have hc : j = 0 ∨ j = 1 ∨ j = 2 ∨ j = 3 := by omega
  rcases hc with rfl | rfl | rfl | rfl
  · show List.getD _ a 0 = _
    rw [getD_set_eq _ _ _ (by simp; omega)]; (try simp)
  · rw [getD_set_ne _ _ _ _ (by omega), getD_set_eq _ _ _ (by simp; omega)]; (try simp)
  · rw [getD_set_ne _ _ _ _ (by omega), getD_set_ne _ _ _ _ (by omega), getD_set_eq _ _ _ (by simp; omega)]; (try simp)
  · rw [getD_set_ne _ _ _ _ (by omega), getD_set_ne _ _ _ _ (by omega), getD_set_ne _ _ _ _ (by omega), getD_set_eq _ _ _ (by omega)]; (try simp)
theorem store_byte_out (d : List Int) (a i : Nat) (x : Int) (h : ¬ (a ≤ i ∧ i < a + 4)) : (storeS d a 4 x).getD i 0 = d.getD i 0 := by
  simp only [storeS]; rw [if_pos trivial, getD_set_ne _ _ _ _ (by omega), getD_set_ne _ _ _ _ (by omega), getD_set_ne _ _ _ _ (by omega), getD_set_ne _ _ _ _ (by omega)]
theorem load_store (d : List Int) (a : Nat) (x : Int) (ha : a + 4 ≤ d.length) (hx : 0 ≤ x) (hx2 : x < 4294967296) : loadS (storeS d a 4 x) a 4 = x := by
  have b0 := store_byte_in d a 0 x (by omega) ha
  have b1 := store_byte_in d a 1 x (by omega) ha
  have b2 := store_byte_in d a 2 x (by omega) ha
  have b3 := store_byte_in d a 3 x (by omega) ha
  unfold loadS; rw [if_pos rfl]; rw [Nat.add_zero] at b0; rw [b0, b1, b2, b3]; simp; omega
theorem load_store_ne (d : List Int) (a b : Nat) (x : Int) (h : a + 4 ≤ b ∨ b + 4 ≤ a) : loadS (storeS d a 4 x) b 4 = loadS d b 4 := by
  unfold loadS; rw [if_pos rfl, if_pos rfl, store_byte_out _ _ _ _ (by omega), store_byte_out _ _ _ _ (by omega), store_byte_out _ _ _ _ (by omega), store_byte_out _ _ _ _ (by omega)]
theorem spanE_row (n a k : Nat) (h : a % 4 = 0) (h2 : a + 4 * k ≤ n) : spanE n a k 4 = 0 := by
  unfold spanE; rw [if_neg (by omega), if_neg (by omega), if_neg (by omega)]
end Go.Proofs.YtajholbcpmjhiaaGreatDoor
/- Plain law: how a machine goes on where its memory has an instruction. No program in sight. -/
namespace Go.Proofs.YtajholbcpmjhiaaGreatDoor
open Go.RowKit
structure CodeAt (d : List Int) (a : Nat) (x : Ix) : Prop where
  al : a % 4 = 0
  lt : a + 4 ≤ d.length
  wd : loadS d a 4 = wordS x
  may : mayP x
  bd : x.bd
theorem span_in {n a : Nat} (h : a % 4 = 0) (h2 : a + 4 ≤ n) : spanE n (a : Int) 1 4 = 0 := by
  unfold spanE; rw [if_neg (by omega), if_neg (by omega), if_neg (by omega)]
theorem loadV_in {d : List Int} {a : Nat} (h : a % 4 = 0) (h2 : a + 4 ≤ d.length) : loadV d (a : Int) 4 = loadS d a 4 := by
  unfold loadV; rw [if_pos (span_in h h2)]; rfl
theorem step_code {m : Mx} {x : Ix} {level : Int} {a : Nat} (hk : m.kind = 0) (hl : ¬ (level < 16 ∧ m.p.pil < level)) (hp : m.pc = (a : Int)) (hc : CodeAt m.mem a x) : stepM m level = opS m x (getM m x.rs1) (sndM m x) := by
  obtain ⟨h1, h2, h3, h4, h5⟩ := hc
  have e : loadV m.mem m.pc 4 = wordS x := by rw [hp, loadV_in h1 h2, h3]
  have hd := dec_enc h5 h4
  have ha : atM m = x := by unfold atM; rw [e]; exact hd.2
  unfold stepM
  rw [if_neg (by omega), if_neg hl]
  unfold runM
  rw [if_neg (by unfold noneAt; rw [e, hp, span_in h1 h2, hd.1]; simp), ha]
theorem CodeAt.store {d : List Int} {a b : Nat} {x : Ix} (h : CodeAt d a x) (y : Int) (hb : a + 4 ≤ b ∨ b + 4 ≤ a) : CodeAt (storeS d b 4 y) a x := by
  obtain ⟨h1, h2, h3, h4, h5⟩ := h
  exact ⟨h1, by rw [storeS_len]; exact h2, by rw [load_store_ne _ _ _ _ (by omega)]; exact h3, h4, h5⟩
theorem CodeAt.new {d : List Int} {a : Nat} {x : Ix} (h : a % 4 = 0) (h2 : a + 4 ≤ d.length) (hb : x.bd) (hm : mayP x) : CodeAt (storeS d a 4 (wordS x)) a x :=
  ⟨h, by rw [storeS_len]; exact h2, load_store _ _ _ h2 (Int.le_of_lt (word_bd hb hm).1) (word_bd hb hm).2, hm, hb⟩
end Go.Proofs.YtajholbcpmjhiaaGreatDoor
/- Plain law: runs of instructions in the bank 16, one by one. No program in sight. -/
namespace Go.Proofs.YtajholbcpmjhiaaGreatDoor
open Go.RowKit
def Codes (d : List Int) (lo : Nat) (L : List Ix) : Prop := ∀ i x, L[i]? = some x → CodeAt d (lo + 4 * i) x
theorem Codes.store {d : List Int} {lo : Nat} {L : List Ix} (h : Codes d lo L) (a : Nat) (y : Int) (ha : a + 4 ≤ lo ∨ lo + 4 * L.length ≤ a) : Codes (storeS d a 4 y) lo L := fun i x hx => by
  have := (List.getElem?_eq_some_iff.1 hx).1
  exact (h i x hx).store y (by omega)
end Go.Proofs.YtajholbcpmjhiaaGreatDoor
/- Walks of the package inst: has, bounds, may, Encode. -/
namespace Go.Proofs.YtajholbcpmjhiaaGreatDoor
open Go.RowKit
theorem ihid {p : Prop} (h : p) : Hid p := h
theorem iret {k : IntKind} {a b : Int} (h : a = b) : Ending.returned (.int k a) = .returned (.int k b) := by rw [h]
theorem iret2 {k l : IntKind} {a b c d : Int} (h : a = b) (g : c = d) : Ending.returned (.tuple #[.int k a, .int l c]) = .returned (.tuple #[.int k b, .int l d]) := by rw [h, g]
theorem iretb {a b : Bool} (h : a = b) : Ending.returned (.bool a) = .returned (.bool b) := by rw [h]
def Tab (w : World) : Prop := ∀ i : Nat, i < 38 → w.cell? ⟨0, i, none⟩ = some (.int .u8 (hasK (kindS i)))
theorem Tab.keep {w w' : World} (h : Tab w) (hb : Below w.heap.size w w') : Tab w' := fun i hi => by
  have h1 := h i hi
  exact (hb.cell (p := ⟨0, i, none⟩) (World.block_lt_of_cell? _ _ h1)).trans h1
set_option maxRecDepth 100000 in
theorem ihas_any (op h : Int) (h0 : 0 ≤ op) (h1 : op < 256) (hv : hasK (kindS op) = h) (w : World) (ht : Tab w) : Calls Tryz.prog 134 #[.int .u8 op] w fun e w' => e = .returned (.int .u8 h) ∧ w = w' := by
  obtain ⟨n, rfl⟩ := Int.eq_ofNat_of_zero_le h0
  by_cases hn : n < 38
  · have hc := ht n hn
    rw [hv] at hc
    have hn2 : (n : Int) < 38 := by omega
    clear ht hv
    go_enter Tryz.func134, Tryz.ntmps134
    go_wp2
    go_ret
    exact ⟨rfl, rfl⟩
  · have hn2 : (38 : Int) ≤ n := by omega
    have E := ihid (show h = 128 by rw [← hv, kind_no (by omega)]; rfl)
    clear ht hv hn
    go_enter Tryz.func134, Tryz.ntmps134
    go_wp2
    go_ret
    exact ⟨iret E.out.symm, rfl⟩
def lowS (op : Int) : Int := if op = 15 then 0 else if op = 17 ∨ op = 18 then -1048576 else if op = 30 ∨ op = 31 then 0 else if op = 33 then 3 else if op = 37 then 1 else -16384
def highS (op : Int) : Int := if op = 15 then 2097151 else if op = 17 ∨ op = 18 then 1048575 else if op = 30 ∨ op = 31 then 1 else if op = 33 then 4 else if op = 37 then 3 else 16383
set_option maxHeartbeats 400000 in
theorem bounds_any (op lo hi : Int) (hl : lowS op = lo) (hh : highS op = hi) (w : World) : Calls Tryz.prog 191 #[.int .u8 op] w fun e w' => e = .returned (.tuple #[.int .i32 lo, .int .i32 hi]) ∧ w = w' := by
  subst hl hh
  by_cases h : op = 15 ∨ op = 17 ∨ op = 18 ∨ op = 30 ∨ op = 31 ∨ op = 33 ∨ op = 37
  · rcases h with rfl | rfl | rfl | rfl | rfl | rfl | rfl
    all_goals
      go_enter Tryz.func191, Tryz.ntmps191
      go_wp2
      go_ret2
      exact ⟨rfl, rfl⟩
  · have e1 : (op == 15) = false := by simp; omega
    have e2 : (op == 17) = false := by simp; omega
    have e3 : (op == 18) = false := by simp; omega
    have e4 : (op == 30) = false := by simp; omega
    have e5 : (op == 31) = false := by simp; omega
    have e6 : (op == 33) = false := by simp; omega
    have e7 : (op == 37) = false := by simp; omega
    have E := ihid (show lowS op = -16384 ∧ highS op = 16383 from ⟨by unfold lowS; repeat (rw [if_neg (by omega)]), by unfold highS; repeat (rw [if_neg (by omega)])⟩)
    clear h
    go_enter Tryz.func191, Tryz.ntmps191
    go_wp2
    go_ret2
    exact ⟨iret2 E.out.1.symm E.out.2.symm, rfl⟩
theorem low_of {op : Int} (h : kindS op = 1 ∨ kindS op = 2 ∨ kindS op = 6 ∨ kindS op = 10 ∨ kindS op = 12) : (op ≠ 15 ∧ op ≠ 17 ∧ op ≠ 18 ∧ op ≠ 30 ∧ op ≠ 31 ∧ op ≠ 33 ∧ op ≠ 37) ∧ lowS op = -16384 ∧ highS op = 16383 := by
  have hn : op ≠ 15 ∧ op ≠ 17 ∧ op ≠ 18 ∧ op ≠ 30 ∧ op ≠ 31 ∧ op ≠ 33 ∧ op ≠ 37 := by
    refine ⟨?_, ?_, ?_, ?_, ?_, ?_, ?_⟩ <;> (intro e; subst e; simp [kindS] at h)
  exact ⟨hn, by unfold lowS; repeat (rw [if_neg (by omega)]), by unfold highS; repeat (rw [if_neg (by omega)])⟩
theorem may_below (w : World) (a b : Obj) : Below w.heap.size w ((w.alloc a).alloc b) := ((Below.refl _ _).alloc (Nat.le_refl _) _).alloc (by simp) _
theorem may_below2 (w : World) (a b : Obj) : Below w.heap.size w ((w.alloc a).alloc b).drew := (may_below w a b).drew
end Go.Proofs.YtajholbcpmjhiaaGreatDoor
/- A list of instructions with marks, as it lies in the world; what stays when some blocks may change. No function of the program is walked here. -/
namespace Go.Proofs.YtajholbcpmjhiaaGreatDoor
open Go.RowKit Go.Maps
inductive It
  | put (x : Ix)
  | far (x : Ix) (name : ByteArray)
def CloAt (w : World) (K : Nat → Prop) (v : Value) : It → Prop
  | .put x => ∃ c, v = .func (.func 80) #[] #[.pointer (some ⟨c, 0, none⟩)] ∧ K c ∧ w.cell? ⟨c, 0, none⟩ = some (.int .u32 (encS x))
  | .far x name => ∃ c d, v = .func (.func 207) #[] #[.pointer (some ⟨c, 0, none⟩), .pointer (some ⟨d, 0, none⟩)] ∧ K c ∧ K d ∧ w.cell? ⟨c, 0, none⟩ = some (.string name) ∧
      (∀ (i : Nat) (u : Value), x.agg.cells[i]? = some u → w.cell? ⟨d, i, none⟩ = some u) ∧ name.size ≤ maxLen ∧ x.bd
theorem CloAt.keep {S K K' : Nat → Prop} {a b : World} {v : Value} {it : It} (h : CloAt a K v it) (o : Only S a b) (hs : ∀ k, K k → ¬ S k) (hk : ∀ k, k < a.heap.size → K k → K' k) : CloAt b K' v it := by
  cases it with
  | put x =>
    obtain ⟨c, h1, h2, h3⟩ := h
    have hc : c < a.heap.size := World.block_lt_of_cell? _ _ h3
    exact ⟨c, h1, hk c hc h2, (o.cell (p := ⟨c, 0, none⟩) hc (hs c h2)).trans h3⟩
  | far x name =>
    obtain ⟨c, d, h1, h2, h3, h4, h5, h6, h7⟩ := h
    have hc : c < a.heap.size := World.block_lt_of_cell? _ _ h4
    have hd : d < a.heap.size := World.block_lt_of_cell? _ _ (h5 0 (.int .u8 x.op) (by simp [Value.cells]))
    exact ⟨c, d, h1, hk c hc h2, hk d hd h3, (o.cell (p := ⟨c, 0, none⟩) hc (hs c h2)).trans h4, fun i u hu => (o.cell (p := ⟨d, i, none⟩) hd (hs d h3)).trans (h5 i u hu), h6, h7⟩
def look (M : List (List UInt8 × Int)) (nm : List UInt8) : Option Int := (M.find? (fun e => e.1 == nm)).map (·.2)
structure MarkD (D : DataW Unit) (M : List (List UInt8 × Int)) : Prop where
  map : IsMap D
  has : ∀ nm, Maps.has D (.string nm) = (look M nm).isSome
  at' : ∀ nm z, D.atKey (.string nm) z = match look M nm with | some n => .lit (.int .i64 n) | none => z
theorem MarkD.nil : MarkD (.map []) [] := ⟨isMap_empty, fun nm => rfl, fun nm z => rfl⟩
theorem look_snoc (M : List (List UInt8 × Int)) (nm nm' : List UInt8) (n : Int) : look (M ++ [(nm, n)]) nm' = match look M nm' with | some k => some k | none => if nm = nm' then some n else none := by
  unfold look
  rw [List.find?_append]
  cases h : M.find? (fun e => e.1 == nm') with
  | some e => simp
  | none => by_cases he : nm = nm' <;> simp [he]
theorem MarkD.put {D : DataW Unit} {M : List (List UInt8 × Int)} (h : MarkD D M) (nm : List UInt8) (n : Int) (hn : look M nm = none) : MarkD (D.put (.string nm) (.lit (.int .i64 n))) (M ++ [(nm, n)]) := by
  refine ⟨h.map.put _ _, fun nm' => ?_, fun nm' z => ?_⟩
  · rw [look_snoc]
    by_cases he : nm = nm'
    · subst he
      rw [has_put_same h.map (by trivial), hn]; simp
    · rw [has_put_other (by intro e; exact he (by cases e; rfl)), h.has, if_neg he]
      cases look M nm' <;> rfl
  · rw [look_snoc]
    by_cases he : nm = nm'
    · subst he
      rw [atKey_put_same h.map (by trivial), hn]; simp
    · rw [atKey_put_other (by intro e; exact he (by cases e; rfl)), h.at', if_neg he]
      cases look M nm' <;> rfl
structure AsmAt (w : World) (p : Nat) (sv : Value) (m : Nat) (K : Nat → Prop) (L : List It) (M : List (List UInt8 × Int)) : Prop where
  ptr : w.heap[p]? = some (.cells #[sv, .map (some m)] 136 (0, 0))
  row : ∃ vs : List Value, w.ownsRow 0 150 1 sv L.length vs ∧ vs.length = L.length ∧ ∀ (i : Nat) (v : Value) (it : It), vs[i]? = some v → L[i]? = some it → CloAt w K v it
  marks : ∃ D : DataW Unit, w.ownsMap Tryz.prog 9 (plainElem Tryz.prog 3) m M.length D ∧ MarkD D M
  ne : p ≠ m ∧ sv.ownBlock ≠ some p ∧ sv.ownBlock ≠ some m
  apart : ∀ k, K k → k ≠ p ∧ sv.ownBlock ≠ some k ∧ k ≠ m
def Own (p : Nat) (sv : Value) (m : Nat) (k : Nat) : Prop := k = p ∨ sv.ownBlock = some k ∨ k = m
theorem AsmAt.keep {S : Nat → Prop} {a b : World} {p m : Nat} {sv : Value} {K : Nat → Prop} {L : List It} {M : List (List UInt8 × Int)} (h : AsmAt a p sv m K L M) (o : Only S a b) (hs : ∀ k, Own p sv m k → ¬ S k) (hk : ∀ k, K k → ¬ S k) : AsmAt b p sv m K L M := by
  obtain ⟨h1, ⟨vs, h2, h3, h4⟩, ⟨D, ⟨es, cl, hb, F, hz, hD⟩, h6⟩, h7, h8⟩ := h
  refine ⟨o.obj h1 (hs p (.inl rfl)), ⟨vs, ⟨h2.1, ?_⟩, h3, fun i v it hv hi => (h4 i v it hv hi).keep o hk (fun _ _ h => h)⟩, ⟨D, ⟨es, cl, o.obj hb (hs m (.inr (.inr rfl))), F, hz, hD⟩, h6⟩, h7, h8⟩
  rcases h2.2 with h | ⟨g, cap, cur, e1, e2, e3, e4⟩
  · exact .inl h
  · refine .inr ⟨g, cap, cur, e1, e2, o.obj e3 (hs g (.inr (.inl ?_))), e4⟩
    rw [e1]; rfl
theorem AsmAt.trim {w : World} {p m : Nat} {sv : Value} {K : Nat → Prop} {L : List It} {M : List (List UInt8 × Int)} (h : AsmAt w p sv m K L M) : AsmAt w p sv m (fun k => K k ∧ k < w.heap.size) L M := by
  obtain ⟨h1, ⟨vs, h2, h3, h4⟩, h5, h7, h8⟩ := h
  exact ⟨h1, ⟨vs, h2, h3, fun i v it hv hi => (h4 i v it hv hi).keep (Only.refl (fun _ => False) w) (fun _ _ h => h) (fun k hl hk => ⟨hk, hl⟩)⟩, h5, h7, fun k hk => h8 k hk.1⟩
theorem AsmAt.blocks {w : World} {p m : Nat} {sv : Value} {K : Nat → Prop} {L : List It} {M : List (List UInt8 × Int)} (h : AsmAt w p sv m K L M) : p < w.heap.size ∧ m < w.heap.size ∧ ∀ k, sv.ownBlock = some k → k < w.heap.size := by
  obtain ⟨h1, ⟨vs, h2, h3, h4⟩, ⟨D, ⟨es, cl, hb, F, hz, hD⟩, h6⟩, h7, h8⟩ := h
  exact ⟨lt_of_block h1, lt_of_block hb, fun k hk => (h2.lt k hk).2⟩
end Go.Proofs.YtajholbcpmjhiaaGreatDoor
/- Walks of the package asm: none, New, Len, At, Mark. -/
namespace Go.Proofs.YtajholbcpmjhiaaGreatDoor
open Go.RowKit Go.Maps
theorem ahid {p : Prop} (h : p) : Hid p := h
theorem AsmAt.cells {w : World} {p m : Nat} {sv : Value} {K : Nat → Prop} {L : List It} {M : List (List UInt8 × Int)} (h : AsmAt w p sv m K L M) :
    w.cell? ⟨p, 0, none⟩ = some sv ∧ w.cell? ⟨p, 1, none⟩ = some (.map (some m)) ∧ w.frozen? ⟨p, 0, none⟩ = false ∧ w.frozen? ⟨p, 1, none⟩ = false := by
  refine ⟨?_, ?_, ?_, ?_⟩ <;> simp [World.cell?, World.frozen?, h.ptr]
theorem AsmAt.slice {w : World} {p m : Nat} {sv : Value} {K : Nat → Prop} {L : List It} {M : List (List UInt8 × Int)} (h : AsmAt w p sv m K L M) :
    (sv = .slice none 0 0 ∧ L.length = 0) ∨ ∃ g cap, sv = .slice (some ⟨g, 0, none⟩) L.length cap ∧ L.length ≤ cap ∧ cap ≤ maxLen := by
  obtain ⟨vs, h2, _⟩ := h.row
  rcases h2.2 with h | ⟨g, cap, cur, e1, _, _, e2, e3, _⟩
  · exact .inl h
  · exact .inr ⟨g, cap, e1, e2, e3⟩
theorem azero (w : World) : (zeroValue 3).run Tryz.prog w = .ok (.int .i64 0) w := by kernel_rfl
theorem AsmAt.lookup {w : World} {p m : Nat} {sv : Value} {K : Nat → Prop} {L : List It} {M : List (List UInt8 × Int)} (h : AsmAt w p sv m K L M) (nm : ByteArray) (hn : nm.size ≤ maxLen) :
    (Instr.lookup 133 (.map (some m)) (.string nm) true).run Tryz.prog w = .ok (.tuple #[.int .i64 ((look M nm.data.toList).getD 0), .bool (look M nm.data.toList).isSome]) w := by
  obtain ⟨D, h1, h2⟩ := h.marks
  obtain ⟨v, ps, hrun, hv⟩ := h1.look_ok (string_keyed Tryz.underlying9) Tryz.underlying133 (z := .int .i64 0) (zd := .lit (.int .i64 0)) (zp := []) (azero w) (plainElem_int Tryz.underlying3 (by decide)) (WideMaps.keyOf_string_mk Tryz.underlying9 hn)
  obtain ⟨c, rfl, hc, _⟩ := plainElem_int_inv Tryz.underlying3 hv
  rw [hrun, h2.has]
  have hc2 := congrArg Prod.fst hc
  simp only at hc2
  rw [h2.at'] at hc2
  cases hl : look M nm.data.toList <;> rw [hl] at hc2 <;> simp at hc2 <;> simp [hc2]
theorem anone_nil (w : World) : Calls Tryz.prog 78 #[.pointer none] w fun e w' => e = .returned (.bool true) ∧ w = w' := by
  go_enter Tryz.func78, Tryz.ntmps78
  go_wp2
  go_ret
  exact ⟨rfl, rfl⟩
theorem anone_made (w : World) (p m : Nat) (h : w.cell? ⟨p, 1, none⟩ = some (.map (some m))) : Calls Tryz.prog 78 #[.pointer (some ⟨p, 0, none⟩)] w fun e w' => e = .returned (.bool false) ∧ w = w' := by
  have qT : ∀ (w : World) (r : Option Nat), (binOp .eql 133 (.map r) (.map none)).run Tryz.prog w = .ok (.bool r.isNone) w := fun w r => run_eql_map_nil w _ _ _ r Tryz.underlying133
  go_enter Tryz.func78, Tryz.ntmps78
  go_wp2
  go_ret
  exact ⟨rfl, rfl⟩
def atN (M : List (List UInt8 × Int)) (nm : ByteArray) : Int := (look M nm.data.toList).getD 0
def atE (M : List (List UInt8 × Int)) (nm : ByteArray) : Int := if (look M nm.data.toList).isSome = true then 0 else 7
set_option maxRecDepth 100000 in
theorem aat_made (w : World) (p m : Nat) (sv : Value) (K : Nat → Prop) (L : List It) (M : List (List UInt8 × Int)) (h : AsmAt w p sv m K L M) (nm : ByteArray) (hs : nm.size ≤ maxLen) :
    Calls Tryz.prog 52 #[.pointer (some ⟨p, 0, none⟩), .string nm] w fun e w' => e = .returned (.tuple #[.int .i64 (atN M nm), .int .i64 (atE M nm)]) ∧ w = w' := by
  obtain ⟨c0, c1, f0, f1⟩ := h.cells
  have hn := anone_made w p m c1
  have hk := h.lookup nm hs
  unfold atN atE
  cases hl : look M nm.data.toList with
  | none =>
    rw [hl] at hk
    simp only [Option.getD_none, Option.isSome_none] at hk
    go_enter Tryz.func52, Tryz.ntmps52
    go_wp2_with fail
    refine hn.mono ?_
    rintro e w' ⟨rfl, rfl⟩
    go_wp2_with fail
    go_ret2
    exact ⟨rfl, rfl⟩
  | some n =>
    rw [hl] at hk
    simp only [Option.getD_some, Option.isSome_some] at hk
    go_enter Tryz.func52, Tryz.ntmps52
    go_wp2_with fail
    refine hn.mono ?_
    rintro e w' ⟨rfl, rfl⟩
    go_wp2_with fail
    go_ret2
    exact ⟨rfl, rfl⟩
end Go.Proofs.YtajholbcpmjhiaaGreatDoor
/- Walks of the package asm: New, Mark. -/
namespace Go.Proofs.YtajholbcpmjhiaaGreatDoor
open Go.RowKit Go.Maps
theorem AsmAt.mark {w w1 : World} {p m : Nat} {sv : Value} {K : Nat → Prop} {L : List It} {M : List (List UInt8 × Int)} {D : DataW Unit} (h : AsmAt w p sv m K L M) (g : w.grownBy w1 (some m)) (nm : List UInt8) (n : Int)
    (o : w1.ownsMap Tryz.prog 9 (plainElem Tryz.prog 3) m (M.length + 1) (D.put (.string nm) (.lit (.int .i64 n)))) (hD : MarkD D M) (hn : look M nm = none) : AsmAt w1 p sv m K L (M ++ [(nm, n)]) := by
  have on : Only (fun k => k = m) w w1 := (Only.refl _ w).grown g (fun k hk _ => by cases hk; rfl)
  obtain ⟨h1, ⟨vs, h2, h3, h4⟩, _, h7, h8⟩ := h
  refine ⟨on.obj h1 h7.1, ⟨vs, ⟨h2.1, ?_⟩, h3, fun i v it hv hi => (h4 i v it hv hi).keep on (fun k hk => (h8 k hk).2.2) (fun _ _ h => h)⟩, ⟨_, by rw [List.length_append]; exact o, hD.put nm n hn⟩, h7, h8⟩
  rcases h2.2 with h | ⟨g, cap, cur, e1, e2, e3, e4⟩
  · exact .inl h
  · refine .inr ⟨g, cap, cur, e1, e2, on.obj e3 ?_, e4⟩
    intro e
    subst e
    exact h7.2.2 (by rw [e1]; rfl)
theorem amark_twice (w : World) (p m : Nat) (sv : Value) (K : Nat → Prop) (L : List It) (M : List (List UInt8 × Int)) (h : AsmAt w p sv m K L M) (nm : ByteArray) (hs : nm.size ≤ maxLen) (n : Int) (hl : look M nm.data.toList = some n) :
    Calls Tryz.prog 117 #[.pointer (some ⟨p, 0, none⟩), .string nm] w fun e w' => e = .returned (.int .i64 9) ∧ w = w' := by
  obtain ⟨c0, c1, f0, f1⟩ := h.cells
  have hn := anone_made w p m c1
  have hk := h.lookup nm hs
  rw [hl] at hk
  simp only [Option.getD_some, Option.isSome_some] at hk
  go_enter Tryz.func117, Tryz.ntmps117
  go_wp2_with fail
  refine hn.mono ?_
  rintro e w' ⟨rfl, rfl⟩
  go_wp2_with fail
  go_ret
  exact ⟨rfl, rfl⟩
def MarkOk (w : World) (p m : Nat) (sv : Value) (K : Nat → Prop) (L : List It) (M : List (List UInt8 × Int)) (nm : ByteArray) (e : Ending) (w' : World) : Prop :=
  e = .returned (.int .i64 0) ∧ AsmAt w' p sv m K L (M ++ [(nm.data.toList, (L.length : Int))]) ∧ Only (fun k => k = m) w w'
set_option maxRecDepth 100000 in
set_option maxHeartbeats 1000000 in
theorem amark_new (w : World) (p m : Nat) (sv : Value) (K : Nat → Prop) (L : List It) (M : List (List UInt8 × Int)) (h : AsmAt w p sv m K L M) (nm : ByteArray) (hs : nm.size ≤ maxLen) (hM : M.length < maxLen) (hL : L.length < 9223372036854775808) (hl : look M nm.data.toList = none) :
    Calls Tryz.prog 117 #[.pointer (some ⟨p, 0, none⟩), .string nm] w (MarkOk w p m sv K L M nm) := by
  obtain ⟨c0, c1, f0, f1⟩ := h.cells
  have hn := anone_made w p m c1
  have hk := h.lookup nm hs
  rw [hl] at hk
  simp only [Option.getD_none, Option.isSome_none] at hk
  obtain ⟨D, hown, hD⟩ := h.marks
  have H := ahid h
  have HO := ahid hown
  clear h hown
  rcases H.out.slice with ⟨rfl, hl0⟩ | ⟨g, cap, rfl, hcap, hcap2⟩
  · have e0 : (L.length : Int) = 0 := by omega
    unfold MarkOk
    rw [e0]
    go_enter Tryz.func117, Tryz.ntmps117
    go_wp2_with fail
    refine hn.mono ?_
    rintro e w' ⟨rfl, rfl⟩
    go_wp2_with fail
    go_still_tail 10, (by kernel_rfl)
    change wpList _ _ _ _ _ w.drew
    have HM2 := H.out.keep ((Only.refl (fun _ => False) w).drew) (fun _ _ h => h) (fun _ _ h => h)
    have HO2 := HO.out.drew
    have HB := ahid ((Only.refl (fun k => k = m) w).drew)
    generalize w.drew = w2 at HM2 HO2 HB ⊢
    have HA := ahid HM2
    clear HM2 c0 c1 f0 f1 hn hk
    go_wp2_with (first | (at_mapUpdate; refine wpList_mapUpdate_own _ rfl _ _ _ 133 rfl 9 3 (string_keyed Tryz.underlying9) Tryz.underlying133 _ m M.length D rfl HO2 hM _ _ (.string nm.data.toList) rfl rfl (WideMaps.keyOf_string_mk Tryz.underlying9 hs) (.lit (.int .i64 0)) [] (plainElem_int Tryz.underlying3 (by decide)) ?_))
    intro w3 ho3 hg3
    have HA3 := HA.out.mark hg3 nm.data.toList _ ho3 hD hl
    have HB3 := HB.out.grown hg3 (fun k hk _ => by cases hk; rfl)
    clear ho3 hg3 HO2 HA HB
    go_wp2_with fail
    go_ret
    exact ⟨rfl, HA3, HB3⟩
  · have hwf : (Lit.int .i64 (L.length : Int)).wf = true := WalkArith.wf_i64 (by omega)
    go_enter Tryz.func117, Tryz.ntmps117
    go_wp2_with fail
    refine hn.mono ?_
    rintro e w' ⟨rfl, rfl⟩
    go_wp2_with fail
    go_still_tail 10, (by kernel_rfl)
    change wpList _ _ _ _ _ w.drew
    have HM2 := H.out.keep ((Only.refl (fun _ => False) w).drew) (fun _ _ h => h) (fun _ _ h => h)
    have HO2 := HO.out.drew
    have HB := ahid ((Only.refl (fun k => k = m) w).drew)
    generalize w.drew = w2 at HM2 HO2 HB ⊢
    have HA := ahid HM2
    clear HM2 c0 c1 f0 f1 hn hk
    go_wp2_with (first | (at_mapUpdate; refine wpList_mapUpdate_own _ rfl _ _ _ 133 rfl 9 3 (string_keyed Tryz.underlying9) Tryz.underlying133 _ m M.length D rfl HO2 hM _ _ (.string nm.data.toList) rfl rfl (WideMaps.keyOf_string_mk Tryz.underlying9 hs) (.lit (.int .i64 L.length)) [] (plainElem_int Tryz.underlying3 hwf) ?_))
    intro w3 ho3 hg3
    have HA3 := HA.out.mark hg3 nm.data.toList _ ho3 hD hl
    have HB3 := HB.out.grown hg3 (fun k hk _ => by cases hk; rfl)
    clear ho3 hg3 HO2 HA HB
    go_wp2_with fail
    go_ret
    exact ⟨rfl, HA3, HB3⟩
end Go.Proofs.YtajholbcpmjhiaaGreatDoor
