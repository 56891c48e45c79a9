/- What holds of a model at every step. Plain; no function of the program is walked here. -/
import Derived.Test.YtdefooailcbnlaaG24
import Derived.Test.YtdefooailcbnlaaG22
namespace Go.Proofs.Ytdefooailcbnlaa
open Go.RowKit
set_option linter.unusedVariables false
/-- What is known of a program that may be. -/
structure GoodF (p : Prg) (x : Fnx) : Prop where
  args : 0 ≤ x.args ∧ x.args ≤ 6 ∧ x.args ≤ x.regs ∧ x.regs ≤ 4096
  some' : 0 < x.blocks.length
  ins : ∀ b ∈ x.blocks, 0 < b.ins.length ∧ ∀ (j : Nat) y, b.ins[j]? = some y → endsB y = decide (j + 1 = b.ins.length) ∧ insF p.funcs x.blocks.length y.op y.d y.a y.b y.n y.f y.args y.l1 y.l2 ∧ (∀ r ∈ readsS y, 0 ≤ r ∧ r < x.regs) ∧ (writesB y = true → 0 ≤ y.d ∧ y.d < x.regs)
structure Good (p : Prg) : Prop where
  heap : 0 ≤ p.heap ∧ p.heap ≤ 1024
  nf : 1 ≤ p.funcs.length ∧ p.funcs.length ≤ 64
  nt : 1 ≤ p.threads.length ∧ p.threads.length ≤ 4
  thr : ∀ t ∈ p.threads, 0 ≤ t ∧ t < p.funcs.length ∧ argsOf p.funcs t.toNat = 0
  fn : ∀ x ∈ p.funcs, GoodF p x
theorem good_of {p : Prg} (h : (checkS p).2.2 = 0) : Good p := by
  obtain ⟨ht, hH, hB, _⟩ := checkS_may h
  unfold topB at ht
  simp only [Bool.and_eq_true, decide_eq_true_eq, Bool.not_eq_true'] at ht
  obtain ⟨⟨h1, h2, h3, h4, h5, h6⟩, h7⟩ := ht
  refine ⟨⟨h1, h2⟩, ⟨h3, h4⟩, ⟨h5, h6⟩, fun t htm => ?_, fun x hx => ?_⟩
  · have hb : badT p.funcs t = false := by
      cases hh : badT p.funcs t with
      | false => rfl
      | true => rw [List.any_eq_true.2 ⟨t, htm, hh⟩] at h7; cases h7
    unfold badT at hb
    simp only [Bool.or_eq_false_iff, Bool.not_eq_false', decide_eq_true_eq, decide_eq_false_iff_not, Decidable.not_not] at hb
    exact ⟨hb.1.1, hb.1.2, hb.2⟩
  · obtain ⟨n, hn⟩ := List.getElem?_of_mem hx
    have hd := hH n x hn
    have hblk := hB n x hn
    unfold headB at hd
    simp only [Bool.and_eq_true, decide_eq_true_eq] at hd
    obtain ⟨_, g1, g2, g3, g4, g5⟩ := hd
    obtain ⟨A, R, ha, hr, har, hr2, hbo⟩ := blksOk_of hH hB hn
    refine ⟨⟨g1, g2, by omega, g4⟩, g5, fun b hb => ?_⟩
    obtain ⟨i, hi⟩ := List.getElem?_of_mem hb
    obtain ⟨k1, k2⟩ := block_ins hi (hblk i b hi)
    refine ⟨k1, fun j y hy => ⟨(k2 j y hy).1, (k2 j y hy).2, ?_⟩⟩
    have hym : y ∈ insAt x.blocks i := by unfold insAt; rw [hi]; exact List.mem_of_getElem? hy
    have := hbo.names i y hym
    exact ⟨fun r hrr => ⟨(this.1 r hrr).1, by have := (this.1 r hrr).2; omega⟩, fun hw => ⟨(this.2 hw).1, by have := (this.2 hw).2; omega⟩⟩
/-- A frame may be. -/
def FrOk (p : Prg) (x : Fr) : Prop := (∃ y, insOf p x = some y) ∧ x.regs.length = regsN p x.f ∧ Words x.regs
def CallOk (p : Prg) (x : Fr) : Prop := ∃ y, insOf p x = some y ∧ y.op = 5
def FrsOk (p : Prg) (l : List Fr) : Prop := (∀ x ∈ l, FrOk p x) ∧ ∀ x ∈ l.dropLast, CallOk p x
structure Ok (p : Prg) (N : Nat) (s : Mdl) : Prop where
  heap : (s.heap.length : Int) = p.heap
  hw : Words s.heap
  ow : Words s.out
  cw : Words s.ch
  ol : s.out.length ≤ N
  tl : s.thr.length = p.threads.length
  fr : ∀ l ∈ s.thr, FrsOk p l ∧ l.length ≤ N + 1
  kd : s.kind = 0 ∨ s.kind = 1 ∨ s.kind = 2
  vw : 0 ≤ s.v ∧ s.v < 4294967296
  cur : s.cur < s.thr.length
  top : s.kind = 0 → ∃ l, s.thr[s.cur]? = some l ∧ l ≠ []
  main : s.kind = 0 → ∃ l, s.thr[0]? = some l ∧ l ≠ []
theorem words_set {l : List Int} (h : Words l) (k : Nat) {x : Int} (hx : 0 ≤ x ∧ x < 4294967296) : Words (l.set k x) := fun y hy => by
  rcases List.mem_or_eq_of_mem_set hy with h' | rfl
  · exact h y h'
  · exact hx
theorem words_append {a b : List Int} (h : Words a) (k : Words b) : Words (a ++ b) := fun y hy => by
  rcases List.mem_append.1 hy with h' | h'
  · exact h y h'
  · exact k y h'
theorem words_reg {l : List Int} (h : Words l) (k : Int) : 0 ≤ regAt l k ∧ regAt l k < 4294967296 := h.at _
/-- What is known where a frame stands. -/
structure Stands (p : Prg) (f : Fr) (x : Insx) : Prop where
  fn : ∃ fn b, p.funcs[f.f]? = some fn ∧ fn.blocks[f.b]? = some b ∧ b.ins[f.i]? = some x ∧ GoodF p fn ∧ (fn.regs : Int) = f.regs.length ∧ endsB x = decide (f.i + 1 = b.ins.length) ∧ insF p.funcs fn.blocks.length x.op x.d x.a x.b x.n x.f x.args x.l1 x.l2
  reads : ∀ r ∈ readsS x, 0 ≤ r ∧ r < f.regs.length
  writes : writesB x = true → 0 ≤ x.d ∧ x.d < f.regs.length
theorem insOf_some {p : Prg} {f : Fr} {x : Insx} (h : insOf p f = some x) : ∃ fn b, p.funcs[f.f]? = some fn ∧ fn.blocks[f.b]? = some b ∧ b.ins[f.i]? = some x := by
  unfold insOf at h
  cases h1 : p.funcs[f.f]? with
  | none => rw [h1] at h; cases h
  | some fn =>
    rw [h1, Option.bind_some] at h
    cases h2 : fn.blocks[f.b]? with
    | none => rw [h2] at h; cases h
    | some b => rw [h2, Option.bind_some] at h; exact ⟨fn, b, rfl, h2, h⟩
theorem insOf_at {p : Prg} {f : Fr} {x : Insx} {fn : Fnx} {b : Blk} (h1 : p.funcs[f.f]? = some fn) (h2 : fn.blocks[f.b]? = some b) (h3 : b.ins[f.i]? = some x) : insOf p f = some x := by
  unfold insOf; rw [h1, Option.bind_some, h2, Option.bind_some, h3]
theorem stands {p : Prg} (hg : Good p) {f : Fr} (hf : FrOk p f) {x : Insx} (hx : insOf p f = some x) : Stands p f x := by
  obtain ⟨fn, b, h1, h2, h3⟩ := insOf_some hx
  have hgf := hg.fn fn (List.mem_of_getElem? h1)
  have hr : (fn.regs : Int) = f.regs.length := by
    have h := hf.2.1
    unfold regsN at h
    rw [h1] at h
    simp only [Option.map_some, Option.getD_some] at h
    have := hgf.args; omega
  obtain ⟨k1, k2⟩ := hgf.ins b (List.mem_of_getElem? h2)
  obtain ⟨e1, e2, e3, e4⟩ := k2 f.i x h3
  exact ⟨⟨fn, b, h1, h2, h3, hgf, hr, e1, e2⟩, fun r hrr => by have := e3 r hrr; omega, fun hw => by have := e4 hw; omega⟩
theorem Stands.next {p : Prg} {f : Fr} {x : Insx} (h : Stands p f x) (he : endsB x = false) : ∃ y, insOf p f.next = some y := by
  obtain ⟨fn, b, h1, h2, h3, _, _, h4, _⟩ := h.fn
  rw [he] at h4
  have hl := (List.getElem?_eq_some_iff.1 h3).1
  have hlt : f.i + 1 < b.ins.length := by
    have : ¬ (f.i + 1 = b.ins.length) := of_decide_eq_false h4.symm
    omega
  exact ⟨_, insOf_at (f := f.next) h1 h2 (List.getElem?_eq_getElem hlt)⟩
theorem Stands.goes {p : Prg} {f : Fr} {x : Insx} (h : Stands p f x) (ho : x.op = 8 ∨ x.op = 9) : (∃ y, insOf p (f.to x.l1) = some y) ∧ ∃ y, insOf p (f.to x.l2) = some y := by
  obtain ⟨fn, b, h1, h2, h3, hg, _, _, h5⟩ := h.fn
  obtain ⟨_, _, _, _, _, _, _, _, h6⟩ := h5
  obtain ⟨a1, a2, a3, a4⟩ := h6 ho
  have go : ∀ l : Int, 0 ≤ l → l < fn.blocks.length → ∃ y, insOf p (f.to l) = some y := fun l hl hl2 => by
    have hlt : l.toNat < fn.blocks.length := by omega
    have hb := hg.ins _ (List.getElem_mem hlt)
    exact ⟨_, insOf_at (f := f.to l) (fn := fn) (b := fn.blocks[l.toNat]) h1 (List.getElem?_eq_getElem hlt) (List.getElem?_eq_getElem hb.1)⟩
  exact ⟨go _ a1 a2, go _ a3 a4⟩
theorem Fr.wr_length (f : Fr) (d w : Int) : (f.wr d w).regs.length = f.regs.length := by simp [Fr.wr]
theorem insOf_wr (p : Prg) (f : Fr) (d w : Int) : insOf p (f.wr d w) = insOf p f := rfl
theorem insOf_next_wr (p : Prg) (f : Fr) (d w : Int) : insOf p (f.wr d w).next = insOf p f.next := rfl
theorem FrOk.wr {p : Prg} {f : Fr} (h : FrOk p f) (d : Int) {w : Int} (hw : 0 ≤ w ∧ w < 4294967296) : FrOk p (f.wr d w) := ⟨h.1, by rw [Fr.wr_length]; exact h.2.1, words_set h.2.2 _ hw⟩
theorem FrOk.stand {p : Prg} {f g : Fr} (h : FrOk p f) (hf : g.f = f.f) (hr : g.regs = f.regs) (hi : ∃ y, insOf p g = some y) : FrOk p g := ⟨hi, by rw [hr, hf]; exact h.2.1, by rw [hr]; exact h.2.2⟩
theorem frameOf_ok {p : Prg} (hg : Good p) {k : Nat} (hk : k < p.funcs.length) {args : List Int} (ha : Words args) (hn : (args.length : Int) = argsOf p.funcs k) : FrOk p (frameOf p k args) := by
  have h1 := List.getElem?_eq_getElem hk
  have hgf := hg.fn _ (List.getElem_mem hk)
  obtain ⟨a1, a2, a3, a4⟩ := hgf.args
  have hb := hgf.ins _ (List.getElem_mem hgf.some')
  have hab : argsOf p.funcs k = (p.funcs[k]).args := by unfold argsOf; rw [h1]; rfl
  have hrn : regsN p k = (p.funcs[k]).regs.toNat := by unfold regsN; rw [h1]; rfl
  refine ⟨⟨_, insOf_at (f := frameOf p k args) h1 (List.getElem?_eq_getElem hgf.some') (List.getElem?_eq_getElem hb.1)⟩, ?_, ?_⟩
  · show (args ++ List.replicate (regsN p k - args.length) 0).length = regsN p k
    rw [List.length_append, List.length_replicate]; omega
  · exact words_append ha (fun y hy => by obtain ⟨_, rfl⟩ := List.mem_replicate.1 hy; omega)
theorem FrsOk.snoc {p : Prg} {up : List Fr} {g : Fr} (h1 : ∀ x ∈ up, FrOk p x) (h2 : ∀ x ∈ up, CallOk p x) (hg : FrOk p g) : FrsOk p (up ++ [g]) := by
  refine ⟨fun x hx => ?_, fun x hx => ?_⟩
  · rcases List.mem_append.1 hx with h | h
    · exact h1 x h
    · simp only [List.mem_singleton] at h; subst h; exact hg
  · rw [List.dropLast_concat] at hx; exact h2 x hx
theorem mem_live {t : List (List Fr)} {i : Nat} : i ∈ live t ↔ ∃ l, t[i]? = some l ∧ l ≠ [] := by
  unfold live
  rw [List.mem_filter, List.mem_range]
  constructor
  · rintro ⟨h1, h2⟩
    refine ⟨t[i], List.getElem?_eq_getElem h1, ?_⟩
    rw [List.getElem?_eq_getElem h1] at h2
    simpa using h2
  · rintro ⟨l, h1, h2⟩
    refine ⟨(List.getElem?_eq_some_iff.1 h1).1, ?_⟩
    rw [h1]
    simpa using h2
theorem choose_cur {s : Mdl} {i : Nat} {l : List Fr} (h : s.thr[i]? = some l) (hl : l ≠ []) : ∃ l', s.thr[(choose s).cur]? = some l' ∧ l' ≠ [] := by
  have hm : i ∈ live s.thr := mem_live.2 ⟨l, h, hl⟩
  have hpos : 0 < (live s.thr).length := List.length_pos_of_mem hm
  have hlt : (s.ch.headD 0).toNat % (live s.thr).length < (live s.thr).length := Nat.mod_lt _ hpos
  have : (choose s).cur ∈ live s.thr := by
    show (live s.thr).getD _ 0 ∈ _
    rw [List.getD_eq_getElem?_getD, List.getElem?_eq_getElem hlt]
    exact List.getElem_mem _
  exact mem_live.1 this
/-- The current thread has other frames. -/
theorem Ok.put {p : Prg} {N M : Nat} {s : Mdl} (h : Ok p N s) (hk : s.kind = 0) (hM : N ≤ M) {l : List Fr} (hl : FrsOk p l) (hn : l.length ≤ M + 1) (hne : l ≠ []) : Ok p M (put s l) := by
  have hc := h.cur
  refine ⟨h.heap, h.hw, h.ow, h.cw, Nat.le_trans h.ol hM, by simp only [Go.Proofs.Ytdefooailcbnlaa.put, List.length_set]; exact h.tl, fun l' hl' => ?_, h.kd, h.vw, by simp only [Go.Proofs.Ytdefooailcbnlaa.put, List.length_set]; exact hc, fun _ => ⟨l, ?_, hne⟩, fun _ => ?_⟩
  · rcases List.mem_or_eq_of_mem_set hl' with h' | rfl
    · exact ⟨(h.fr l' h').1, by have := (h.fr l' h').2; omega⟩
    · exact ⟨hl, hn⟩
  · show (s.thr.set s.cur l)[s.cur]? = _
    rw [List.getElem?_set_self hc]
  · obtain ⟨l0, h0, hn0⟩ := h.main hk
    show ∃ l', (s.thr.set s.cur l)[0]? = some l' ∧ _
    by_cases e : s.cur = 0
    · rw [e] at hc ⊢
      exact ⟨l, List.getElem?_set_self hc, hne⟩
    · exact ⟨l0, by rw [List.getElem?_set_ne e]; exact h0, hn0⟩
theorem Ok.choose {p : Prg} {N : Nat} {s : Mdl} (h : Ok p N s) (hk : s.kind = 0) : Ok p N (choose s) := by
  obtain ⟨l0, h0, hn0⟩ := h.main hk
  have hc := choose_cur h0 hn0
  refine ⟨h.heap, h.hw, h.ow, fun y hy => h.cw y (List.mem_of_mem_tail hy), h.ol, h.tl, h.fr, h.kd, h.vw, ?_, fun _ => hc, fun _ => h.main hk⟩
  obtain ⟨l', h', _⟩ := hc
  exact (List.getElem?_eq_some_iff.1 h').1
theorem Ok.heap' {p : Prg} {N : Nat} {s : Mdl} (h : Ok p N s) (k : Nat) {x : Int} (hx : 0 ≤ x ∧ x < 4294967296) : Ok p N { s with heap := s.heap.set k x } :=
  ⟨by simpa using h.heap, words_set h.hw _ hx, h.ow, h.cw, h.ol, h.tl, h.fr, h.kd, h.vw, h.cur, h.top, h.main⟩
theorem Ok.out' {p : Prg} {N : Nat} {s : Mdl} (h : Ok p N s) {x : Int} (hx : 0 ≤ x ∧ x < 4294967296) : Ok p (N + 1) { s with out := s.out ++ [x] } :=
  ⟨h.heap, h.hw, words_append h.ow (fun y hy => by simp only [List.mem_singleton] at hy; subst hy; exact hx), h.cw, by simp only [List.length_append, List.length_cons, List.length_nil]; have := h.ol; omega, h.tl, fun l hl => ⟨(h.fr l hl).1, by have := (h.fr l hl).2; omega⟩, h.kd, h.vw, h.cur, h.top, h.main⟩
theorem Ok.mono {p : Prg} {N M : Nat} {s : Mdl} (h : Ok p N s) (hM : N ≤ M) : Ok p M s := ⟨h.heap, h.hw, h.ow, h.cw, Nat.le_trans h.ol hM, h.tl, fun l hl => ⟨(h.fr l hl).1, by have := (h.fr l hl).2; omega⟩, h.kd, h.vw, h.cur, h.top, h.main⟩
theorem Ok.fault {p : Prg} {N : Nat} {s : Mdl} (h : Ok p N s) (w : Int) (hw : 0 ≤ w ∧ w < 4294967296) : Ok p N (fault s w) :=
  ⟨h.heap, h.hw, h.ow, h.cw, h.ol, h.tl, h.fr, .inr (.inr rfl), hw, h.cur, fun hk => (by cases hk), fun hk => (by cases hk)⟩
/-- A thread has ended, and it is not the first one. -/
theorem Ok.end' {p : Prg} {N : Nat} {s : Mdl} (h : Ok p N s) (hk : s.kind = 0) (hc : s.cur ≠ 0) : Ok p N (Go.Proofs.Ytdefooailcbnlaa.choose (Go.Proofs.Ytdefooailcbnlaa.put s [])) := by
  obtain ⟨l0, h0, hn0⟩ := h.main hk
  have hz : (Go.Proofs.Ytdefooailcbnlaa.put s []).thr[0]? = some l0 := by
    show (s.thr.set s.cur [])[0]? = _
    rw [List.getElem?_set_ne hc]; exact h0
  have hcc := choose_cur hz hn0
  refine ⟨h.heap, h.hw, h.ow, fun y hy => h.cw y (List.mem_of_mem_tail hy), h.ol, by simp only [Go.Proofs.Ytdefooailcbnlaa.choose, Go.Proofs.Ytdefooailcbnlaa.put, List.length_set]; exact h.tl, fun l' hl' => ?_, h.kd, h.vw, ?_, fun _ => hcc, fun _ => ⟨l0, hz, hn0⟩⟩
  · rcases List.mem_or_eq_of_mem_set hl' with h' | rfl
    · exact h.fr l' h'
    · exact ⟨⟨fun x hx => (by cases hx), fun x hx => (by cases hx)⟩, by simp⟩
  · obtain ⟨l', h', _⟩ := hcc
    exact (List.getElem?_eq_some_iff.1 h').1
theorem Ok.halt {p : Prg} {N : Nat} {s : Mdl} (h : Ok p N s) (hk : s.kind = 0) (w : Int) (hw : 0 ≤ w ∧ w < 4294967296) : Ok p N { Go.Proofs.Ytdefooailcbnlaa.put s [] with kind := 1, v := w } := by
  refine ⟨h.heap, h.hw, h.ow, h.cw, h.ol, by simp only [Go.Proofs.Ytdefooailcbnlaa.put, List.length_set]; exact h.tl, fun l' hl' => ?_, .inr (.inl rfl), hw, by simp only [Go.Proofs.Ytdefooailcbnlaa.put, List.length_set]; exact h.cur, fun hk => (by cases hk), fun hk => (by cases hk)⟩
  rcases List.mem_or_eq_of_mem_set hl' with h' | rfl
  · exact h.fr l' h'
  · exact ⟨⟨fun x hx => (by cases hx), fun x hx => (by cases hx)⟩, by simp⟩
theorem doW_word (n : Nat) {a b : Int} (ha : 0 ≤ a ∧ a < 4294967296) (hb : 0 ≤ b ∧ b < 4294967296) : 0 ≤ doW n a b ∧ doW n a b < 4294967296 := doW_bd n ha.1 ha.2 hb.2
/-- Where a running model stands. -/
structure AtIns (p : Prg) (s : Mdl) (up : List Fr) (f : Fr) (x : Insx) : Prop where
  thr : s.thr[s.cur]? = some (up ++ [f])
  ins : insOf p f = some x
  fok : FrOk p f
  ups : ∀ g ∈ up, FrOk p g ∧ CallOk p g
  st : Stands p f x
theorem Ok.at' {p : Prg} {N : Nat} {s : Mdl} (hg : Good p) (h : Ok p N s) (hk : s.kind = 0) : ∃ up f x, AtIns p s up f x ∧ up.length ≤ N ∧ step p s = actS p s up f x := by
  obtain ⟨l, hl, hne⟩ := h.top hk
  obtain ⟨⟨h1, h2⟩, h3⟩ := h.fr l (List.mem_of_getElem? hl)
  have hcat := List.dropLast_concat_getLast hne
  have hfm : l.getLast hne ∈ l := List.getLast_mem hne
  obtain ⟨x, hx⟩ := (h1 _ hfm).1
  refine ⟨l.dropLast, l.getLast hne, x, ⟨by rw [hcat]; exact hl, hx, h1 _ hfm, fun g hgm => ⟨h1 g (List.dropLast_subset l hgm), h2 g hgm⟩, stands hg (h1 _ hfm) hx⟩, ?_, ?_⟩
  · rw [List.length_dropLast]; omega
  · unfold step
    rw [hl]
    simp only [List.getLast?_eq_some_getLast hne, hx]
set_option maxHeartbeats 2000000 in
theorem act_ok {p : Prg} {N : Nat} {s : Mdl} (hg : Good p) (h : Ok p N s) (hk : s.kind = 0) {up : List Fr} {f : Fr} {x : Insx} (ha : AtIns p s up f x) (hn : up.length ≤ N) (hxn : 0 ≤ x.n ∧ x.n < 4294967296) : Ok p (N + 1) (actS p s up f x) := by
  obtain ⟨hthr, hins, hf, hup, hs⟩ := ha
  have hwa := words_reg hf.2.2 x.a
  have hwb := words_reg hf.2.2 x.b
  have hends : ∀ {e : Bool}, endsB x = e → endsB x = e := id
  have mv : ∀ g : Fr, FrOk p g → FrsOk p (up ++ [g]) := fun g hgk => FrsOk.snoc (fun y hy => (hup y hy).1) (fun y hy => (hup y hy).2) hgk
  have nxt : endsB x = false → FrOk p f.next := fun he => hf.stand rfl rfl (hs.next he)
  have pu : ∀ g : Fr, FrOk p g → Ok p (N + 1) (put s (up ++ [g])) := fun g hgk => h.put hk (Nat.le_succ N) (mv g hgk) (by simp; omega) (by simp)
  unfold actS
  dsimp only
  split
  · rename_i h0
    exact pu _ ((nxt (by unfold endsB; rw [h0]; rfl)).wr _ hxn)
  split
  · rename_i h0
    split
    · exact pu _ ((nxt (by unfold endsB; rw [h0]; rfl)).wr _ (doW_word _ hwa hwb))
    · exact (h.fault 1 (by omega)).mono (Nat.le_succ N)
  split
  · rename_i h0
    exact pu _ ((nxt (by unfold endsB; rw [h0]; rfl)).wr _ hwa)
  split
  · rename_i h0
    split
    · exact pu _ ((nxt (by unfold endsB; rw [h0]; rfl)).wr _ (h.hw.at _))
    · exact (h.fault 2 (by omega)).mono (Nat.le_succ N)
  split
  · rename_i h0
    split
    · exact (h.heap' _ hwb).put hk (Nat.le_succ N) (mv _ (nxt (by unfold endsB; rw [h0]; rfl))) (by simp; omega) (by simp)
    · exact (h.fault 2 (by omega)).mono (Nat.le_succ N)
  split
  · rename_i h0
    obtain ⟨fn, b, h1, h2, h3, _, _, _, hI⟩ := hs.fn
    obtain ⟨_, _, _, _, _, _, _, h5, _⟩ := hI
    obtain ⟨c1, c2, c3⟩ := h5 h0
    have hfr : FrOk p (frameOf p x.f.toNat (x.args.map (regAt f.regs))) := frameOf_ok hg (by omega) (fun y hy => by obtain ⟨r, _, rfl⟩ := List.mem_map.1 hy; exact words_reg hf.2.2 r) (by simpa using c3)
    refine h.put hk (Nat.le_succ N) ?_ (by simp; omega) (by simp)
    rw [show up ++ [f, frameOf p x.f.toNat (x.args.map (regAt f.regs))] = (up ++ [f]) ++ [frameOf p x.f.toNat (x.args.map (regAt f.regs))] by simp]
    refine FrsOk.snoc (fun y hy => ?_) (fun y hy => ?_) hfr
    · rcases List.mem_append.1 hy with h' | h'
      · exact (hup y h').1
      · simp only [List.mem_singleton] at h'; subst h'; exact hf
    · rcases List.mem_append.1 hy with h' | h'
      · exact (hup y h').2
      · simp only [List.mem_singleton] at h'; subst h'; exact ⟨x, hins, h0⟩
  split
  · rename_i h0
    exact (h.out' hwa).put hk (Nat.le_refl _) (mv _ (nxt (by unfold endsB; rw [h0]; rfl))) (by simp; omega) (by simp)
  split
  · rename_i h0
    exact (pu _ (nxt (by unfold endsB; rw [h0]; rfl))).choose hk
  split
  · rename_i h0
    exact pu _ (hf.stand rfl rfl (hs.goes (.inl h0)).1)
  split
  · rename_i h0
    refine pu _ (hf.stand rfl rfl ?_)
    split
    · exact (hs.goes (.inr h0)).2
    · exact (hs.goes (.inr h0)).1
  · unfold retS
    cases hgl : up.getLast? with
    | none =>
      dsimp only
      split
      · exact (h.halt hk _ hwa).mono (Nat.le_succ N)
      · rename_i hc
        exact (h.end' hk hc).mono (Nat.le_succ N)
    | some g =>
      dsimp only
      have hne : up ≠ [] := by intro e; rw [e] at hgl; cases hgl
      have hgm : g ∈ up := List.mem_of_getLast? hgl
      obtain ⟨hgf, y, hy, hy5⟩ := hup g hgm
      have hgs := stands hg hgf hy
      have hgn : FrOk p g.next := hgf.stand rfl rfl (hgs.next (by unfold endsB; rw [hy5]; rfl))
      refine h.put hk (Nat.le_succ N) (FrsOk.snoc (fun z hz => (hup z (List.dropLast_subset up hz)).1) (fun z hz => (hup z (List.dropLast_subset up hz)).2) (hgn.wr _ hwa)) (by simp; omega) (by simp)
theorem mstep_ok {p : Prg} {N : Nat} {s : Mdl} (hg : Good p) (hb : ∀ f x, insOf p f = some x → 0 ≤ x.n ∧ x.n < 4294967296) (h : Ok p N s) (hk : s.kind = 0) : Ok p (N + 1) (step p s) := by
  obtain ⟨up, f, x, ha, hn, he⟩ := h.at' hg hk
  rw [he]
  exact act_ok hg h hk ha hn (hb f x ha.ins)
theorem mnew_ok {p : Prg} (hg : Good p) {ch : List Int} (hc : Words ch) : Ok p 0 (newS p ch) := by
  obtain ⟨h0, h1⟩ := hg.heap
  have hfr : ∀ t ∈ p.threads, FrOk p (frameOf p t.toNat []) := fun t ht => by
    obtain ⟨a, b, c⟩ := hg.thr t ht
    exact frameOf_ok hg (by omega) (fun y hy => by cases hy) (by rw [c]; rfl)
  have hlen := hg.nt
  have htop : ∃ l, (newS p ch).thr[0]? = some l ∧ l ≠ [] := by
    have : 0 < p.threads.length := by omega
    refine ⟨[frameOf p (p.threads[0]).toNat []], ?_, by simp⟩
    show (p.threads.map _)[0]? = _
    rw [List.getElem?_map, List.getElem?_eq_getElem this]; rfl
  refine ⟨?_, fun y hy => by obtain ⟨_, rfl⟩ := List.mem_replicate.1 hy; omega, fun y hy => (by cases hy), hc, Nat.le_refl _, by simp [newS], fun l hl => ?_, .inl rfl, ⟨by show (0:Int) ≤ 0; omega, by show (0:Int) < _; omega⟩, by simp [newS]; omega, fun _ => htop, fun _ => htop⟩
  · show ((List.replicate p.heap.toNat 0).length : Int) = p.heap
    rw [List.length_replicate]; omega
  · obtain ⟨t, ht, rfl⟩ := List.mem_map.1 hl
    exact ⟨⟨fun x hx => by simp only [List.mem_singleton] at hx; subst hx; exact hfr t ht, fun x hx => by simp at hx⟩, by simp⟩
end Go.Proofs.Ytdefooailcbnlaa
