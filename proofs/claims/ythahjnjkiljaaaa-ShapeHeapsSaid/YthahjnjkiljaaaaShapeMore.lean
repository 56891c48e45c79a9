/- Programs that still may be: another heap, other names, one write more. No function of the program is walked here. -/
import Derived.Test.YthahjnjkiljaaaaShapePathsLaw
namespace Go.Proofs.Ythahjnjkiljaaaa
open Go.RowKit
set_option linter.unusedVariables false
set_option linter.unusedSimpArgs false
theorem checkS_congr {p q : Prg} (ht : topB p = topB q) (hf : p.funcs = q.funcs) : checkS p = checkS q := by
  unfold checkS; rw [ht, hf]
theorem topB_heap (h1 h2 : Int) (ts : List Int) (fs : List Fnx) (k1 : 0 ≤ h1 ∧ h1 ≤ 1024) (k2 : 0 ≤ h2 ∧ h2 ≤ 1024) : topB ⟨h1, ts, fs⟩ = topB ⟨h2, ts, fs⟩ := by
  unfold topB
  simp only
  congr 1
  simp only [decide_eq_decide]
  omega
/-! ### Names -/
def sfx (s : ByteArray) : ByteArray := s ++ ⟨#[95, 120]⟩
theorem sfx_list (s : ByteArray) : (sfx s).data.toList = s.data.toList ++ [95, 120] := by
  unfold sfx
  rw [ByteArray.data_append]; simp
theorem sfx_inj {s t : ByteArray} (h : sfx s = sfx t) : s = t := by
  have h1 := congrArg (fun b : ByteArray => b.data.toList) h
  simp only [sfx_list] at h1
  have h2 := List.append_cancel_right h1
  apply ByteArray.ext
  exact Array.toList_inj.1 h2
theorem sfx_name {s : ByteArray} (h : nameB s.data.toList = true) (hl : s.size ≤ 60) : nameB (sfx s).data.toList = true := by
  rw [sfx_list]
  have hs : s.size = s.data.toList.length := by show s.data.size = _; rw [Array.length_toList]
  rw [hs] at hl
  clear hs
  generalize s.data.toList = l at *
  cases l with
  | nil => cases h
  | cons c r =>
    simp only [List.cons_append]
    unfold nameB at h ⊢
    simp only [Bool.and_eq_true, decide_eq_true_eq, Bool.not_eq_true', List.length_append, List.length_cons, List.length_nil] at h ⊢
    obtain ⟨⟨⟨h1, h2⟩, h3⟩, h4⟩ := h
    refine ⟨⟨⟨by simp at hl; omega, h2⟩, ?_⟩, ?_⟩
    · unfold allwB at h3 ⊢
      rw [List.all_append, h3]
      simp [wordP, letP, digP]
    · have : alldB (r ++ [95, 120]) = false := by
        unfold alldB
        rw [List.all_append]
        simp [digP]
      rw [this]; simp
def renB (b : Blk) : Blk := ⟨sfx b.name, b.ins⟩
def renF (f : Fnx) : Fnx := ⟨sfx f.name, f.args, f.regs, f.blocks.map renB⟩
theorem ren_ins (bs : List Blk) (i : Nat) : insAt (bs.map renB) i = insAt bs i := by
  unfold insAt
  rw [List.getElem?_map]
  cases bs[i]? <;> rfl
theorem ren_great (bs : List Blk) : greatestS (bs.map renB) = greatestS bs := by
  unfold greatestS
  rw [List.foldl_map]; rfl
theorem ren_args (fs : List Fnx) (k : Nat) : argsOf (fs.map renF) k = argsOf fs k := by
  unfold argsOf
  rw [List.getElem?_map]
  cases fs[k]? <;> rfl
theorem ren_insF (fs : List Fnx) (nb : Nat) (op d a b n f : Int) (args : List Int) (l1 l2 : Int) : insF (fs.map renF) nb op d a b n f args l1 l2 = insF fs nb op d a b n f args l1 l2 := by
  unfold insF
  rw [List.length_map, ren_args]
theorem bytes_list (a : ByteArray) : a.toList = a.data.toList := ByteArray.toList_eq a
theorem bytes_eq {a b : ByteArray} (h : (a == b) = true) : a = b := by
  rw [beq_toListBytes] at h
  have h1 := eq_of_beq h
  rw [bytes_list, bytes_list] at h1
  apply ByteArray.ext
  exact Array.toList_inj.1 h1
theorem bytes_self (a : ByteArray) : (a == a) = true := by rw [beq_toListBytes]; simp
theorem ren_twice {nm nm' : Nat → ByteArray} (n : Nat) (hn : ∀ i, i ≤ n → nm' i = sfx (nm i)) (hl : (nm n).size ≤ 60) (h : twiceB nm n = false) : twiceB nm' n = false := by
  unfold twiceB at h ⊢
  simp only [Bool.or_eq_false_iff, Bool.not_eq_false'] at h ⊢
  obtain ⟨h1, h2⟩ := h
  refine ⟨?_, by rw [hn n (Nat.le_refl _)]; exact sfx_name h2 hl⟩
  rw [List.any_eq_false] at h1 ⊢
  intro i hi
  have hne : nm i ≠ nm n := fun e => h1 i hi (by rw [e]; exact bytes_self _)
  intro e
  have e' : nm' i = nm' n := bytes_eq e
  rw [hn i (by have := List.mem_range.1 hi; omega), hn n (Nat.le_refl _)] at e'
  exact hne (sfx_inj e')
theorem ren_wr {bs : List Blk} : ∀ i, goesOf (bs.map renB) i = goesOf bs i := fun i => by unfold goesOf; rw [ren_ins]
theorem ren_lstep (bs : List Blk) (r : Nat) (o : List Bool) (i : Nat) : lstep (bs.map renB) r o i = lstep bs r o i := by
  unfold lstep; rw [ren_ins, ren_wr]
theorem ren_lpass (bs : List Blk) (r : Nat) (o : List Bool) : ∀ n, lpass (bs.map renB) r o n = lpass bs r o n
  | 0 => rfl
  | n + 1 => by rw [lpass_succ, lpass_succ, ren_lpass bs r o n, ren_lstep]
theorem ren_lpasses (bs : List Blk) (r : Nat) (o : List Bool) : ∀ n, lpasses (bs.map renB) r o n = lpasses bs r o n
  | 0 => rfl
  | n + 1 => by
    show lpass (bs.map renB) r (lpasses (bs.map renB) r o n) (bs.map renB).length = lpass bs r (lpasses bs r o n) bs.length
    rw [ren_lpasses bs r o n, List.length_map, ren_lpass]
theorem ren_lacks (bs : List Blk) (A : Int) (r : Nat) : lacksL (bs.map renB) A r = lacksL bs A r := by
  unfold lacksL linit
  rw [List.length_map, ren_lpasses]
theorem ren_miss (bs : List Blk) (A : Int) (n : Nat) : missB (bs.map renB) A n = missB bs A n := by
  unfold missB lackF
  rw [ren_ins]
  simp only [ren_lacks]
theorem ren_ok {hp : Int} {ts : List Int} {fs : List Fnx} (hl : ∀ f ∈ fs, f.name.size ≤ 60 ∧ ∀ b ∈ f.blocks, b.name.size ≤ 60) (h : (checkS ⟨hp, ts, fs⟩).2.2 = 0) : checkS ⟨hp, ts, fs.map renF⟩ = (0, 0, 0) := by
  obtain ⟨h1, h2, h3, h4⟩ := checkS_may h
  have hget : ∀ (n : Nat) y, (fs.map renF)[n]? = some y → ∃ x, fs[n]? = some x ∧ y = renF x := by
    intro n y hy
    rw [List.getElem?_map] at hy
    cases hx : fs[n]? with
    | none => rw [hx] at hy; cases hy
    | some x => rw [hx] at hy; cases hy; exact ⟨x, rfl, rfl⟩
  refine checkS_of ?_ (fun n y hy => ?_) (fun n y hy i b hb => ?_) (fun n y hy i hi => ?_)
  · rw [← h1]
    unfold topB
    simp only [List.length_map]
    congr 2
    refine congrArg (fun g => List.any ts g) (funext fun t => ?_)
    unfold badT
    rw [List.length_map, ren_args]
  · obtain ⟨x, hx, rfl⟩ := hget n y hy
    have h := h2 n x hx
    unfold headB at h ⊢
    simp only [Bool.and_eq_true, Bool.not_eq_true', decide_eq_true_eq] at h ⊢
    obtain ⟨k1, k2⟩ := h
    refine ⟨ren_twice (nm := fnNames fs) n (fun i hi => ?_) ?_ k1, ?_⟩
    · have hin : i < fs.length := by have := (List.getElem?_eq_some_iff.1 hx).1; omega
      have hxi := List.getElem?_eq_getElem hin
      rw [fnNames_at hxi, fnNames_at (x := renF fs[i]) (by rw [List.getElem?_map, hxi]; rfl)]
      rfl
    · rw [fnNames_at hx]; exact (hl x (List.mem_of_getElem? hx)).1
    · show 0 ≤ x.args ∧ x.args ≤ 6 ∧ x.regs = max x.args (greatestS (x.blocks.map renB)) ∧ x.regs ≤ 4096 ∧ 0 < (x.blocks.map renB).length
      rw [ren_great, List.length_map]; exact k2
  · obtain ⟨x, hx, rfl⟩ := hget n y hy
    have hb' : (x.blocks.map renB)[i]? = some b := hb
    rw [List.getElem?_map] at hb'
    cases hxb : x.blocks[i]? with
    | none => rw [hxb] at hb'; cases hb'
    | some c =>
      rw [hxb] at hb'
      obtain rfl : renB c = b := by simpa using hb'
      have h := h3 n x hx i c hxb
      show blockB (fs.map renF) (x.blocks.map renB) i (renB c) = true
      unfold blockB at h ⊢
      simp only [Bool.and_eq_true, Bool.not_eq_true', decide_eq_true_eq] at h ⊢
      obtain ⟨⟨k1, k2⟩, k3⟩ := h
      refine ⟨⟨ren_twice (nm := blkNames x.blocks) i (fun j hj => ?_) ?_ k1, k2⟩, ?_⟩
      · have hin : j < x.blocks.length := by have := (List.getElem?_eq_some_iff.1 hxb).1; omega
        have hxi := List.getElem?_eq_getElem hin
        rw [blkNames_at hxi, blkNames_at (x := renB x.blocks[j]) (by rw [List.getElem?_map, hxi]; rfl)]
        rfl
      · rw [blkNames_at hxb]; exact (hl x (List.mem_of_getElem? hx)).2 c (List.mem_of_getElem? hxb)
      · rw [List.length_map]
        rw [← k3]
        show (List.range c.ins.length).all (okAt (fs.map renF) x.blocks.length c.ins) = _
        congr 1
        funext j
        unfold okAt insX
        simp only [ren_insF]
  · obtain ⟨x, hx, rfl⟩ := hget n y hy
    have hi' : i < (x.blocks.map renB).length := hi
    rw [List.length_map] at hi'
    show missB (x.blocks.map renB) x.args i = false
    rw [ren_miss]
    exact h4 n x hx i hi'
end Go.Proofs.Ythahjnjkiljaaaa
