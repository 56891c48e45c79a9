/- Several texts in one: TickAny, TickMadeLaw. -/
import Derived.Test.YtajholbcpmjhiaaGreatDoorH26
set_option linter.unusedVariables false
set_option linter.unusedSimpArgs false
/- tick.All on any list without its names. -/
namespace Go.Proofs.YtajholbcpmjhiaaGreatDoor
open Go.RowKit Go.Maps
def nmTick (k : Nat) : List UInt8 := (tickNm k).data.toList
def Bs.ticks (s : Bs) : Nat → Bs
  | 0 => s
  | k + 1 => ((s.ticks k).mark (nmTick (k + 1))).put (tickL (k + 1))
def noT (M : List (List UInt8 × Int)) : Prop := ∀ k, 1 ≤ k → k ≤ 15 → look M (nmTick k) = none
theorem tick_apart : ∀ i : Nat, i < 16 → ∀ j : Nat, j < 16 → 1 ≤ i → i < j → nmTick i ≠ nmTick j := by decide
theorem ticks_look (s : Bs) (h : noT s.M) : ∀ k, k ≤ 15 → ∀ j, k < j → j ≤ 15 → look (s.ticks k).M (nmTick j) = none
  | 0, _, j, h1, h2 => h j (by omega) h2
  | k + 1, hk, j, h1, h2 => by
    have ih := ticks_look s h k (by omega) j (by omega) h2
    show look ((s.ticks k).M ++ [(nmTick (k + 1), ((s.ticks k).L.length : Int))]) (nmTick j) = none
    rw [look_snoc, ih]
    simp only
    rw [if_neg (tick_apart (k + 1) (by omega) j (by omega) (by omega) (by omega))]
theorem ticks_len (s : Bs) : ∀ k, (s.ticks k).L.length = s.L.length + 4 * k ∧ (s.ticks k).M.length = s.M.length + k
  | 0 => ⟨rfl, rfl⟩
  | k + 1 => by
    obtain ⟨h1, h2⟩ := ticks_len s k
    constructor
    · show (((s.ticks k).mark _).put (tickL (k + 1))).L.length = _
      rw [Bs.put_len]
      show (s.ticks k).L.length + 4 = _
      omega
    · show ((s.ticks k).M ++ [_]).length = _
      rw [List.length_append, h2]; rfl
set_option maxRecDepth 100000 in
theorem each_ticks {W w : World} {pa cb : Nat} {S : Nat → Prop} {s : Bs} (h : BsAt W w pa S s) (hc : w.cell? ⟨cb, 0, none⟩ = some (.pointer (some ⟨pa, 0, none⟩))) (hcb : ¬ S cb) (hno : noT s.M) (hL : s.L.length + 100 < 4294967296) (hM : s.M.length + 20 < 4294967296) :
    Calls Tryz.prog 153 #[.func (.func 155) #[] #[.pointer (some ⟨cb, 0, none⟩)]] w fun e w' => e = .returned (.int .i64 0) ∧ BsGo W w pa S (s.ticks 15) w' := by
  have H := ahid h
  have HC := ahid hc
  have HNO := ahid (ticks_look s hno)
  have HLN := ahid (ticks_len s)
  clear h hc hno
  go_enter Tryz.func153, Tryz.ntmps153
  go_wp2_with fail
  go_loopw [5] (fun i wr => ∃ k : Nat, k ≤ 15 ∧ i = .int .i64 k ∧ Hid (BsGo W w pa S (s.ticks k) wr)) (fun i _ => 15 - (intOf i).toNat)
  case atStart => exact ⟨0, by omega, rfl, ahid (BsGo.same H.out)⟩
  case round =>
    obtain ⟨k, hk, rfl, hg⟩ := hrel
    have HG := ahid hg.out
    clear hg
    by_cases hlt : k < 15
    · have e1 : IntKind.i64.wrap ((k : Int) + 1) = ((k + 1 : Nat) : Int) := by rw [IntWalk.i64_in _ (by omega)]; omega
      have h15 : (k : Int) < 15 := by omega
      obtain ⟨S1, h1, o1, r1⟩ := HG.out
      have hlen := HLN.out k
      have hcall := ahid (all2_lst W.heap.size wr cb pa S1 (s.ticks k).L (s.ticks k).M h1.lst h1.bel.size h1.tab ((o1.cell (p := ⟨cb, 0, none⟩) (World.block_lt_of_cell? _ _ HC.out) hcb).trans HC.out) (by rw [hlen.1]; omega) (by rw [hlen.2]; unfold maxLen; omega) (k + 1) (by omega) (by omega) (HNO.out k hk (k + 1) (by omega) (by omega)))
      have H1 := ahid h1
      clear hlen h1
      go_wp2_with fail
      refine hcall.out.mono ?_
      rintro e w' ⟨rfl, hg⟩
      have HN := ahid (show BsGo W w pa S (s.ticks (k + 1)) w' from BsGo.then o1 r1 (H1.out.step (s' := s.ticks (k + 1)) hg))
      clear hg
      go_wp2_with fail
      exact ⟨⟨k + 1, by omega, by go_num, ahid HN.out⟩, by simp [intOf]; omega⟩
    · obtain rfl : k = 15 := by omega
      go_wp2_with fail
      go_ret
      exact ⟨rfl, HG.out⟩
theorem bs_copy2 {W w : World} {pa : Nat} {S : Nat → Prop} {s : Bs} (h : BsAt W w pa S s) (hL : s.L.length < 4294967296) :
    Calls Tryz.prog 81 #[.pointer (some ⟨pa, 0, none⟩)] w fun e w' => (∃ q, e = .returned (.pointer (some ⟨q, 0, none⟩))) ∧ Below w.heap.size w w' := by
  obtain ⟨sv, m, K, hA, hO, hK⟩ := h.lst.ex
  refine (acopy_any w pa m sv K s.L s.M hA hL).mono ?_
  rintro e w' ⟨p, v, m', rfl, -, -, hb⟩
  exact ⟨⟨p, rfl⟩, hb⟩
theorem ticks_any {W w : World} {pa : Nat} {S : Nat → Prop} {s : Bs} (h : BsAt W w pa S s) (hno : noT s.M) (hL : s.L.length + 100 < 4294967296) (hM : s.M.length + 20 < 4294967296) :
    Calls Tryz.prog 106 #[.pointer (some ⟨pa, 0, none⟩)] w fun e w' => e = .returned (.int .i64 0) ∧ BsGo W w pa S (s.ticks 15) w' := by
  have HB0 := ahid (show Below w.heap.size w (w.alloc (.cells #[.pointer (some ⟨pa, 0, none⟩)] 64)) from (Below.refl _ _).alloc (Nat.le_refl _) _)
  have HC0 := ahid ((vcell_new w (.pointer (some ⟨pa, 0, none⟩)) 64))
  have H := ahid h
  have HNO := ahid hno
  have HTE := ahid (show thereE s.M = 0 from if_neg (fun ha => by
    obtain ⟨j, hj, hj2⟩ := List.any_eq_true.1 ha
    have hj2 : (look s.M (nmTick (j + 1))).isSome = true := hj2
    rw [hno (j + 1) (by omega) (by have := List.mem_range.1 hj; omega)] at hj2
    cases hj2))
  clear h hno
  go_enter Tryz.func106, Tryz.ntmps106
  go_wp2_with fail
  generalize w.alloc (.cells #[.pointer (some ⟨pa, 0, none⟩)] 64) = W1 at *
  refine (bs_copy2 (H.out.keepb HB0.out) (by omega)).mono ?_
  rintro e w2 ⟨⟨q, rfl⟩, hb2⟩
  have HB2 := ahid (HB0.out.trans (hb2.mono HB0.out.size))
  have HC2 := ahid ((hb2.cell (p := ⟨w.heap.size, 0, none⟩) (World.block_lt_of_cell? _ _ HC0.out)).trans HC0.out)
  clear hb2
  obtain ⟨sv, m, K, hA, hO, hK⟩ := (H.out.keepb HB2.out).lst.ex
  have HE := each_there w2 w.heap.size pa m sv K s.L s.M hA HC2.out
  rw [HTE.out] at HE
  replace HE := ahid HE
  clear hA hO hK HB0 HC0
  go_wp2_with fail
  refine HE.out.mono ?_
  rintro e w3 ⟨rfl, hb3⟩
  have HB3 := ahid (HB2.out.trans (hb3.mono HB2.out.size))
  have HP := ahid (each_ticks (H.out.keepb HB3.out) ((hb3.cell (p := ⟨w.heap.size, 0, none⟩) (World.block_lt_of_cell? _ _ HC2.out)).trans HC2.out) (fun hs => by have := (H.out.lst.lo _ hs).2; omega) HNO.out hL hM)
  clear hb3
  go_wp2_with fail
  refine HP.out.mono ?_
  rintro e w4 ⟨rfl, hg⟩
  have HG := ahid (hg.behind HB3.out)
  clear hg
  go_wp2_with fail
  go_ret
  exact ⟨rfl, HG.out⟩
end Go.Proofs.YtajholbcpmjhiaaGreatDoor
/- Plain law: the memory of the machine that is interrupted. No program in sight. -/
namespace Go.Proofs.YtajholbcpmjhiaaGreatDoor
open Go.RowKit
def tickI : List Ix := (List.range 15).flatMap fun k => tickL (k + 1)
theorem tickI_len : tickI.length = 60 := by decide
theorem tickI_ok : ∀ x ∈ tickI, okI x := by decide
theorem tickI_part : ∀ l, 1 ≤ l → l ≤ 15 → (tickI.drop (4 * (l - 1))).take 4 = tickL l := tick_cases ⟨rfl, rfl, rfl, rfl, rfl, rfl, rfl, rfl, rfl, rfl, rfl, rfl, rfl, rfl, rfl⟩
theorem tickI_at (l : Nat) (h1 : 1 ≤ l) (h15 : l ≤ 15) (i : Nat) (x : Ix) (hx : (tickL l)[i]? = some x) : tickI[4 * (l - 1) + i]? = some x := by
  have hi : i < 4 := (List.getElem?_eq_some_iff.1 hx).1
  rw [← tickI_part l h1 h15, List.getElem?_take_of_lt hi, List.getElem?_drop] at hx
  exact hx
structure TickIs : Prop where
  e : wordsE (asm0.ticks 15).M 0 (asm0.ticks 15).L = 0
  l : wordsL (asm0.ticks 15).M 0 (asm0.ticks 15).L = tickI.map encS
  m : ∀ e ∈ (asm0.ticks 15).M, 0 ≤ e.2 ∧ e.2 < 1000
theorem tick_is : TickIs := ⟨by decide +kernel, by decide +kernel, by decide +kernel⟩
theorem jumpT_ok : jumpT.bd ∧ mayP jumpT := by decide
theorem addOne_ok : addOne.bd ∧ mayP addOne := by decide
structure MemP (d : List Int) (k n : Nat) : Prop where
  len : d.length = 2048
  hand : Codes d 768 tickI
  vec : ∀ l, 1 ≤ l → l < k → CodeAt d (512 + 16 * l) jumpT
  main : ∀ c, c < n → CodeAt d (1536 + 4 * c) addOne
  zero : ∀ l, l < 16 → loadS d (4 * l) 4 = 0
theorem MemP.start : MemP (putV (List.replicate 2048 0) 768 (tickI.map encS)) 1 0 := by
  have hl : (List.replicate 2048 (0 : Int)).length = 2048 := List.length_replicate ..
  have hc := codes_put (d := List.replicate 2048 0) (a := 768) (by decide) tickI_ok (by rw [hl, tickI_len]; decide)
  refine ⟨by rw [putV_len]; exact hl, hc, fun l h1 h2 => by omega, fun c hc => by omega, fun l hl16 => ?_⟩
  unfold putV
  split
  · rw [load_put_before _ _ _ _ (by show 4 * l + 4 ≤ 768; omega)]
    unfold loadS
    rw [if_pos rfl]
    have e : ∀ i, (List.replicate 2048 (0 : Int)).getD i 0 = 0 := fun i => by
      rw [List.getD_eq_getElem?_getD, List.getElem?_replicate]; split <;> rfl
    rw [e, e, e, e]; rfl
  · unfold loadS
    rw [if_pos rfl]
    have e : ∀ i, (List.replicate 2048 (0 : Int)).getD i 0 = 0 := fun i => by
      rw [List.getD_eq_getElem?_getD, List.getElem?_replicate]; split <;> rfl
    rw [e, e, e, e]; rfl
theorem MemP.vecS {d : List Int} {k : Nat} (h : MemP d k 0) (h1 : 1 ≤ k) (h16 : k < 16) : MemP (storeV d ((512 + 16 * k : Nat) : Int) 4 (encS jumpT)) (k + 1) 0 := by
  have hl := h.len
  have hn := tickI_len
  rw [storeV_word _ _ _ (by omega) (by omega), encS_word jumpT_ok.2]
  refine ⟨by rw [storeS_len]; exact hl, h.hand.store _ _ (.inl (by omega)), fun l l1 l2 => ?_, fun c hc => by omega, fun l hl16 => ?_⟩
  · by_cases e : l = k
    · subst e; exact CodeAt.new (by omega) (by omega) jumpT_ok.1 jumpT_ok.2
    · exact (h.vec l l1 (by omega)).store _ (by omega)
  · rw [load_store_ne _ _ _ _ (by omega)]; exact h.zero l hl16
theorem MemP.mainS {d : List Int} {n : Nat} (h : MemP d 16 n) (hn : n < 128) : MemP (storeV d ((1536 + 4 * n : Nat) : Int) 4 (encS addOne)) 16 (n + 1) := by
  have hl := h.len
  have ht := tickI_len
  rw [storeV_word _ _ _ (by omega) (by omega), encS_word addOne_ok.2]
  refine ⟨by rw [storeS_len]; exact hl, h.hand.store _ _ (.inr (by omega)), fun l l1 l2 => (h.vec l l1 l2).store _ (by omega), fun c hc => ?_, fun l hl16 => ?_⟩
  · by_cases e : c = n
    · subst e; exact CodeAt.new (by omega) (by omega) addOne_ok.1 addOne_ok.2
    · exact (h.main c (by omega)).store _ (by omega)
  · rw [load_store_ne _ _ _ _ (by omega)]; exact h.zero l hl16
theorem MemP.fin {d : List Int} (h : MemP d 16 128) : Mem9 d :=
  ⟨h.len, h.main, fun l h1 h2 => h.vec l h1 (by omega), fun l h1 h2 i x hx => by
    have := h.hand _ x (tickI_at l h1 h2 i x hx)
    rw [show 768 + 4 * (4 * (l - 1) + i) = 768 + 16 * (l - 1) + 4 * i by omega] at this
    exact this, h.zero⟩
def vecD : Nat → List Int
  | 0 => putV (List.replicate 2048 0) 768 (tickI.map encS)
  | k + 1 => storeV (vecD k) ((512 + 16 * (k + 1) : Nat) : Int) 4 (encS jumpT)
def mainD : Nat → List Int
  | 0 => vecD 15
  | n + 1 => storeV (mainD n) ((1536 + 4 * n : Nat) : Int) 4 (encS addOne)
theorem vecD_succ (k : Nat) : vecD (k + 1) = storeV (vecD k) ((512 + 16 * (k + 1) : Nat) : Int) 4 (encS jumpT) := rfl
theorem mainD_succ (n : Nat) : mainD (n + 1) = storeV (mainD n) ((1536 + 4 * n : Nat) : Int) 4 (encS addOne) := rfl
theorem mainD_zero : mainD 0 = vecD 15 := rfl
theorem vecD_zero : vecD 0 = putV (List.replicate 2048 0) 768 (tickI.map encS) := rfl
attribute [irreducible] vecD mainD
structure Made9 (pil : Int) (m : Mx) : Prop where
  mem : Mem9 m.mem
  same : m.mem = mainD 128
  f : m.f = Fx.new 2
  pc : m.pc = 1536
  p : m.p = ⟨0, pil, 0, 0⟩
  kind : m.kind = 0
  out : m.out = []
theorem Made9.tk {pil : Int} {m : Mx} (h : Made9 pil m) (hok : m.ok) : TkM m.mem pil Tk.zero.c Tk.zero.st Tk.zero.cnt m :=
  ⟨hok, h.kind, by rw [h.f]; rfl, by rw [h.f]; rfl, h.mem.len, fun _ _ => rfl, fun l hl => h.mem.zero l hl, h.pc, h.p, trivial, fun l k hm => by simp [Tk.zero] at hm⟩
end Go.Proofs.YtajholbcpmjhiaaGreatDoor
