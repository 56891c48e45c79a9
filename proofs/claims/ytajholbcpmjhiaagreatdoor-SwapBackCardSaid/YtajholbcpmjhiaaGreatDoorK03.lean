/- Several texts in one: SwapBackLaw, SwapRows. -/
import Derived.Test.YtajholbcpmjhiaaGreatDoorK01
set_option linter.unusedVariables false
set_option linter.unusedSimpArgs false
/- Plain law: a thread that yields and is chosen again at once. No program in sight. -/
namespace Go.Proofs.YtajholbcpmjhiaaGreatDoor
open Go.RowKit
def backC (x : CaseS) : CaseS := ⟨x.nw, x.cwp, x.inv, x.regs, [], 1, 0, fun t => if t = 0 then true else x.alive t, x.stacks, x.choice, x.flags, x.pil, x.fill, false⟩
theorem back_may {x : CaseS} (h : mayS x) : mayS (backC x) := by
  obtain ⟨a, b, c, d, e, f, g, i, j, k⟩ := h
  exact ⟨a, b, c, d, ⟨by show (1 : Int) ≤ 1; omega, by show (1 : Int) ≤ 4; omega⟩, ⟨by show (0 : Int) ≤ 0; omega, by show (0 : Int) < 1; omega⟩, g, i, j, by show 0 ≤ 64; omega⟩
theorem back_al (x : CaseS) : alE (alN (backC x)) 0 false 0 = 1 := by simp [alE, alN, backC]
theorem back_live (x : CaseS) : liveS (backC x) = 1 := by
  show alE (alN (backC x)) 0 false 0 + 0 = 1
  rw [back_al]
theorem back_next (x : CaseS) : nextT (backC x) = 0 := by
  show seekL (alE (alN (backC x)) 0 false) 1 0 (x.choice.toNat % liveS (backC x)) = 0
  rw [back_live, Nat.mod_one]
  unfold seekL
  rw [if_pos (back_al x), if_pos rfl]
theorem back_pc (x : CaseS) : pcS (backC x) 0 = 1540 := by unfold pcS; exact if_pos ⟨rfl, rfl⟩
theorem back_sp (x : CaseS) (m : Mx) : spS (backC x) m 0 = frW m.f.win m.f.nw x.cwp.toNat := by unfold spS; exact if_pos ⟨rfl, rfl⟩
theorem setV_winlen (f : Fx) (w b r x : Int) : (setV f w b r x).win.length = f.win.length := by
  unfold setV setF
  split
  · split
    · rfl
    · split
      · rfl
      · split <;> exact List.length_set
  · rfl
theorem regF_len (nw : Nat) (regs : List Int) : ∀ k, (regF nw regs k).win.length = 16 * nw ∧ (regF nw regs k).nw = nw
  | 0 => ⟨by unfold regF Fx.new; simp, rfl⟩
  | k + 1 => by
    obtain ⟨h1, h2⟩ := regF_len nw regs k
    unfold regF
    exact ⟨(setV_winlen _ _ _ _ _).trans h1, (setV_nw _ _ _ _ _).trans h2⟩
theorem spG_len {f : Fx} {n : Nat} (hl : f.win.length = 16 * n) (hn : f.nw = n) : ∀ k, (spG f [] k).win.length = 16 * n ∧ (spG f [] k).nw = n
  | 0 => ⟨hl, hn⟩
  | k + 1 => by
    obtain ⟨h1, h2⟩ := spG_len hl hn k
    unfold spG
    exact ⟨(setV_winlen _ _ _ _ _).trans h1, (setV_nw _ _ _ _ _).trans h2⟩
theorem spG_fr {f : Fx} {n : Nat} (hl : f.win.length = 16 * n) (hn : f.nw = n) (h2 : 2 ≤ n) (h32 : n ≤ 32) : ∀ k, k ≤ n → ∀ w, w < k → (spG f [] k).win.getD (16 * ((w + n - 1) % n) + 14) 0 = ((2048 + 64 * w : Nat) : Int)
  | 0, _, w, hw => absurd hw (Nat.not_lt_zero _)
  | k + 1, hk, w, hw => by
    obtain ⟨l1, l2⟩ := spG_len hl hn k
    have hx : (2048 : Int) + frmZ [] k % 1520 * 4 = ((2048 + 64 * k : Nat) : Int) := by
      unfold frmZ
      rw [if_neg (by simp)]
      omega
    have hlt : ∀ j, (j + n - 1) % n < n := fun j => Nat.mod_lt _ (by omega)
    have e : (spG f [] (k + 1)).win = (spG f [] k).win.set (16 * ((k + n - 1) % n) + 14) ((2048 + 64 * k : Nat) : Int) := by
      show (setV (spG f [] k) k 0 14 (2048 + frmZ [] k % 1520 * 4)).win = _
      rw [hx]
      unfold setV
      rw [if_pos (show regOk (spG f [] k) ((k : Nat) : Int) 0 14 from ⟨⟨by omega, by omega⟩, by omega, by omega, by omega⟩)]
      unfold setF
      rw [if_neg (by decide), if_neg (by decide), if_pos (by decide), Int.toNat_natCast, l2]
      rfl
    have hlk := hlt k
    have hlw := hlt w
    rw [e, List.getD_eq_getElem?_getD]
    by_cases hwk : w = k
    · subst hwk
      rw [List.getElem?_set_self (by rw [l1]; omega)]
      rfl
    · have hne : (w + n - 1) % n ≠ (k + n - 1) % n := fun h => hwk (before_inj (by omega) (by omega) h)
      rw [List.getElem?_set_ne (by omega), ← List.getD_eq_getElem?_getD]
      exact spG_fr hl hn h2 h32 k (by omega) w (by omega)
theorem back_fr {x : CaseS} {m : Mx} (h : MadeS (backC x) m) (hok : m.ok) {w : Nat} (hw : w < m.f.nw) : m.f.win.getD (16 * ((w + m.f.nw - 1) % m.f.nw) + 14) 0 = ((2048 + 64 * w : Nat) : Int) ∧ frW m.f.win m.f.nw w = 2048 + 64 * w := by
  have hn2 := hok.f.nw2
  have hn32 := hok.f.nw32
  have e : m.f.nw = x.nw.toNat := by have := h.nw; have h3 : (backC x).nw = x.nw := rfl; omega
  have hf : m.f = spG (regF x.nw.toNat x.regs x.regs.length) [] x.nw.toNat := h.file
  obtain ⟨l1, l2⟩ := regF_len x.nw.toNat x.regs x.regs.length
  have hr := spG_fr l1 l2 (by omega) (by omega) x.nw.toNat (Nat.le_refl _) w (by omega)
  rw [← hf, ← e] at hr
  exact ⟨hr, by unfold frW; rw [hr]; exact Int.toNat_natCast _⟩
theorem load_put_after (l : List Int) : ∀ (d : List Int) (a b : Nat), a + 4 * l.length ≤ b → loadS (putS d a l) b 4 = loadS d b 4 := by
  induction l with
  | nil => intro d a b _; rfl
  | cons x l ih =>
    intro d a b h
    rw [List.length_cons] at h
    unfold putS
    rw [ih _ _ _ (by omega), load_store_ne _ _ _ _ (by omega)]
theorem words_congr {d e : List Int} {a n : Nat} (h : ∀ b, a ≤ b → b + 4 ≤ a + 4 * n → loadS d b 4 = loadS e b 4) : wordsS d a n = wordsS e a n := by
  unfold wordsS
  refine List.map_congr_left fun i hi => ?_
  have := List.mem_range.1 hi
  exact h _ (by omega) (by omega)
theorem turn_ne {nw cw i k : Nat} (hik : i < k) (hk : k < nw) : (cw + i) % nw ≠ (cw + k) % nw := fun h => by
  have h1 := Nat.sub_mod_eq_zero_of_mod_eq h.symm
  rw [show cw + k - (cw + i) = k - i by omega, Nat.mod_eq_of_lt (by omega)] at h1
  omega
theorem flush_rows {f : Fx} (hf : f.ok) {cw : Nat} {d : List Int} (hd : d.length = 8192) (hfr : ∀ w, w < f.nw → frW f.win f.nw w = 2048 + 64 * w) : ∀ k, k < f.nw → ∀ i, i < k → wordsS (flushS f.win f.nw cw k d) (2048 + 64 * ((cw + i) % f.nw)) 16 = winR f ((cw + i) % f.nw)
  | 0, _, i, hi => absurd hi (Nat.not_lt_zero _)
  | k + 1, hk, i, hi => by
    have hn2 := hf.nw2
    have hn32 := hf.nw32
    have hlt : ∀ j, (cw + j) % f.nw < f.nw := fun j => Nat.mod_lt _ (by omega)
    have hlk := hlt k
    have hli := hlt i
    have hrl : (winR f ((cw + k) % f.nw)).length = 16 := winR_len hf (hlt k)
    have e : flushS f.win f.nw cw (k + 1) d = putS (flushS f.win f.nw cw k d) (2048 + 64 * ((cw + k) % f.nw)) (winR f ((cw + k) % f.nw)) := by
      show putS _ (frW f.win f.nw ((cw + k) % f.nw)) (rowW f.win ((cw + k) % f.nw)) = _
      rw [hfr _ (hlt k)]
      rfl
    rw [e]
    by_cases hik : i = k
    · subst hik
      have hw : Words (winR f ((cw + i) % f.nw)) := fun y hy => by unfold winR at hy; exact hf.ww y (List.mem_of_mem_drop (List.mem_of_mem_take hy))
      have := words_put (winR f ((cw + i) % f.nw)) (flushS f.win f.nw cw i d) (2048 + 64 * ((cw + i) % f.nw)) 0 hw (by rw [hrl, flushS_len, hd]; omega) (by omega)
      rw [hrl] at this
      exact this
    · have hne := turn_ne (cw := cw) (nw := f.nw) (show i < k by omega) (by omega)
      rw [words_congr (e := flushS f.win f.nw cw k d) (fun b h1 h2 => ?_), flush_rows hf hd hfr k (by omega) i (by omega)]
      rcases Nat.lt_or_gt_of_ne hne with h | h
      · exact load_put_before _ _ _ _ (by omega)
      · exact load_put_after _ _ _ _ (by rw [hrl]; omega)
structure BackS (m m' : Mx) (cw n : Nat) : Prop where
  nw : m'.f.nw = m.f.nw
  wim : m'.wim = 2 ^ ((cw + 1) % m.f.nw)
  len : m'.mem.length = 8192
  win : winR m'.f cw = winR m.f cw
  sp : getV m'.f cw 0 14 = ((2048 + 64 * cw : Nat) : Int)
  words : ∀ i, i < n → wordsS m'.mem (2048 + 64 * ((cw + i) % m.f.nw)) 16 = winR m.f ((cw + i) % m.f.nw)
  next : ∀ w, w < m.f.nw → (winR m.f w).getD 14 0 = ((2048 + 64 * ((w + 1) % m.f.nw) : Nat) : Int)
theorem back_go {x : CaseS} {m : Mx} (h : MadeS (backC x) m) (hm : mayS x) (hx : 0 ≤ x.choice ∧ x.choice < 4294967296) (hst : ∀ t, 0 ≤ x.stacks t ∧ x.stacks t < 65536) (hok : m.ok) :
    ∃ k m', 1 ≤ k ∧ k ≤ 26 * nS x + 125 ∧ Rest (1540 : Nat) k m m' ∧ BackS m m' x.cwp.toNat (nS x) := by
  obtain ⟨k, m', h1, h2, h3, h4, h5, h6, h7, h8⟩ := swap_go h (back_may hm) hx hst hok (by rw [back_live]; decide)
  rw [back_next, back_pc] at h3
  rw [back_next, back_sp] at h7
  rw [back_next, back_pc] at h4
  rw [back_next] at h8
  refine ⟨k, m', h1, h2, h3, ?_⟩
  have ha := h.trap (back_may hm) hx hok
  have hnn : nS x < m.f.nw := ha.nn
  have hn2 := hok.f.nw2
  have hn32 := hok.f.nw32
  have hwl := hok.f.wl
  have hcw : x.cwp.toNat < m.f.nw := ha.cwL
  have hlen : m.mem.length = 8192 := h.mem.len
  have hfr : ∀ w, w < m.f.nw → frW m.f.win m.f.nw w = 2048 + 64 * w := fun w hw => (back_fr h hok hw).2
  have hlt : ∀ j, j % m.f.nw < m.f.nw := fun j => Nat.mod_lt _ (by omega)
  have hmem : m'.mem = nextS (keepS (flushS m.f.win m.f.nw x.cwp.toNat (nS x) m.mem) 0 1540 (frW m.f.win m.f.nw x.cwp.toNat)) 0 := h8
  have hml : m'.mem.length = 8192 := by rw [hmem, nextS_len]; unfold keepS; rw [storeS_len, storeS_len, flushS_len]; exact hlen
  have hw0 : ∀ i, i < nS x → wordsS m'.mem (2048 + 64 * ((x.cwp.toNat + i) % m.f.nw)) 16 = winR m.f ((x.cwp.toNat + i) % m.f.nw) := fun i hi => by
    rw [← flush_rows hok.f hlen hfr (nS x) hnn i hi, hmem]
    refine words_congr fun b hb1 hb2 => ?_
    unfold nextS keepS
    rw [load_far _ (by omega), load_far _ (by omega), load_far _ (by omega), load_far _ (by omega)]
  have hspe := hfr _ hcw
  have hws : wordsS (nextS (halfS m x.cwp.toNat (nS x) 0 false) 0) (frW m.f.win m.f.nw x.cwp.toNat) 16 = winR m.f x.cwp.toNat := by
    have h0 := hw0 0 ha.n0
    rw [Nat.add_zero, Nat.mod_eq_of_lt hcw] at h0
    rw [hspe, ← h0, h8]
    rfl
  have hw7 : m'.f.win = setW (m.f.win.set (16 * ((x.cwp.toNat + m.f.nw - 1) % m.f.nw) + 14) (frW m.f.win m.f.nw x.cwp.toNat : Nat)) x.cwp.toNat (winR m.f x.cwp.toNat) := by
    rw [← hws]; exact h7
  have hrl : (winR m.f x.cwp.toNat).length = 16 := winR_len hok.f hcw
  have hXl : (m.f.win.set (16 * ((x.cwp.toNat + m.f.nw - 1) % m.f.nw) + 14) (frW m.f.win m.f.nw x.cwp.toNat : Int)).length = 16 * m.f.nw := by rw [List.length_set]; exact hwl
  refine ⟨h4.nw, h4.wim, hml, ?_, ?_, hw0, fun w hw => ?_⟩
  · unfold winR
    rw [hw7]
    unfold setW
    rw [List.append_assoc, List.drop_append, List.drop_of_length_le (by rw [List.length_take]; omega), List.length_take, hXl, Nat.min_eq_left (by omega), Nat.sub_self, List.drop_zero, List.nil_append, List.take_append_of_le_length (by omega), List.take_of_length_le (by omega)]
    rfl
  · have e := getV_out (f := m'.f) (w := x.cwp.toNat) (by rw [h4.nw]; exact hn2) (by rw [h4.nw]; exact hcw)
    have hi : (x.cwp.toNat + m.f.nw - 1) % m.f.nw ≠ x.cwp.toNat := fun h => by
      rcases Nat.eq_zero_or_pos x.cwp.toNat with h0 | h0
      · rw [h0, Nat.zero_add, Nat.mod_eq_of_lt (by omega)] at h; omega
      · rw [show x.cwp.toNat + m.f.nw - 1 = (x.cwp.toNat - 1) + m.f.nw by omega, Nat.add_mod_right, Nat.mod_eq_of_lt (by omega)] at h; omega
    have hl1 := hlt (x.cwp.toNat + m.f.nw - 1)
    rw [e, h4.nw, hw7, setW_out (by rw [hXl, hrl]; omega) (by rw [hrl]; omega), List.getD_eq_getElem?_getD, List.getElem?_set_self (by omega), hspe]
    rfl
  · have hb := (back_fr h hok (hlt (w + 1))).1
    have e : ((w + 1) % m.f.nw + m.f.nw - 1) % m.f.nw = w := by
      by_cases h : w + 1 = m.f.nw
      · rw [h, Nat.mod_self, Nat.zero_add, Nat.mod_eq_of_lt (by omega)]; omega
      · rw [Nat.mod_eq_of_lt (show w + 1 < m.f.nw by omega), show w + 1 + m.f.nw - 1 = w + m.f.nw by omega, Nat.add_mod_right, Nat.mod_eq_of_lt hw]
    rw [e] at hb
    rw [← hb]
    unfold winR
    rw [List.getD_eq_getElem?_getD, List.getD_eq_getElem?_getD, List.getElem?_take_of_lt (by decide), List.getElem?_drop]
end Go.Proofs.YtajholbcpmjhiaaGreatDoor
/- Rows of rows: the windows that are kept one by one. -/
namespace Go.Proofs.YtajholbcpmjhiaaGreatDoor
open Go.RowKit Go.Maps
theorem infosl : (Tryz.prog.info? 22).map (fun i => (i.zero, i.size, i.bytes)) = some (some (.slice none 0 0), 1, 24) := by kernel_rfl
def lenV : Value → Nat
  | .slice _ n _ => n
  | _ => 0
theorem owns_only {S : Nat → Prop} {w w' : World} {B size n : Nat} {e : TypeId} {v : Value} {xs : List Value} (h : w.ownsRow B e size v n xs) (o : Only S w w') (hS : ∀ k, B ≤ k → ¬ S k) : w'.ownsRow B e size v n xs := by
  refine ⟨h.1, ?_⟩
  rcases h.2 with h | ⟨g, cap, cur, h1, h2, h3, h4⟩
  · exact .inl h
  · exact .inr ⟨g, cap, cur, h1, h2, (o.block g (lt_of_block h3) (hS g h2)).trans h3, h4⟩
theorem owns_apart {w : World} {B1 B2 n m : Nat} {v u : Value} {xs ys : List Value} (h : w.ownsRow B1 22 1 v n xs) (h2 : w.ownsRow B2 24 1 u m ys) : u.ownBlock = none ∨ u.ownBlock ≠ v.ownBlock := by
  rcases h2.2 with ⟨rfl, -⟩ | ⟨g, cap, cur, rfl, -, h3, -⟩
  · exact .inl rfl
  · refine .inr fun e => ?_
    have e1 : (Value.slice (some ⟨g, 0, none⟩) m cap).ownBlock = some g := rfl
    rw [e1] at e
    rcases h.2 with ⟨rfl, -⟩ | ⟨g', cap', cur', rfl, -, h3', -⟩
    · cases e
    · have e2 : (Value.slice (some ⟨g', 0, none⟩) n cap').ownBlock = some g' := rfl
      rw [e2] at e
      cases e
      rw [h3] at h3'
      have := Option.some.inj h3'
      injection this with a b c
      exact absurd b (by decide)
structure WRows (wr : World) (base : Nat) (f : Fx) (cw k : Nat) (v : Value) : Prop where
  ex : ∃ xs : List Value, wr.ownsRow base 22 1 v k xs ∧ ∀ j, j < k → ∃ u, xs[j]? = some u ∧ wr.ownsRow base 24 1 u 16 (u32s (winR f ((cw + j) % f.nw)))
theorem owns_shape {w : World} {B n size : Nat} {e : TypeId} {v : Value} {xs : List Value} (h : w.ownsRow B e size v n xs) : ∃ p c, v = .slice p n c ∧ (∀ k, v.ownBlock = some k → B ≤ k ∧ k < w.heap.size) := by
  rcases h.2 with ⟨rfl, rfl⟩ | ⟨g, cap, cur, rfl, h2, h3, _⟩
  · exact ⟨none, 0, rfl, fun k hk => by cases hk⟩
  · exact ⟨_, _, rfl, fun k hk => by cases hk; exact ⟨h2, lt_of_block h3⟩⟩
theorem WRows.shape {wr : World} {base : Nat} {f : Fx} {cw k : Nat} {v : Value} (h : WRows wr base f cw k v) : ∃ p c, v = .slice p k c := by
  obtain ⟨xs, h1, -⟩ := h.ex
  obtain ⟨p, c, e, -⟩ := owns_shape h1
  exact ⟨p, c, e⟩
theorem WRows.only {S : Nat → Prop} {wr w' : World} {base : Nat} {f : Fx} {cw k : Nat} {v : Value} (h : WRows wr base f cw k v) (o : Only S wr w') (hS : ∀ k, base ≤ k → ¬ S k) : WRows w' base f cw k v := by
  obtain ⟨xs, h1, h2⟩ := h.ex
  exact ⟨xs, owns_only h1 o hS, fun j hj => by obtain ⟨u, e, h3⟩ := h2 j hj; exact ⟨u, e, owns_only h3 o hS⟩⟩
theorem WRows.keep {wr w' : World} {base : Nat} {f : Fx} {cw k : Nat} {v : Value} (h : WRows wr base f cw k v) (hb : Below wr.heap.size wr w') : WRows w' base f cw k v :=
  h.only (Only.of_below (S := fun _ => False) hb) (fun _ _ h => h)
theorem WRows.zero (wr : World) (base : Nat) (f : Fx) (cw : Nat) : WRows wr base f cw 0 (.slice none 0 0) := ⟨[], World.ownsRow_nil _ _ _ _, fun j hj => absurd hj (Nat.not_lt_zero _)⟩
theorem WRows.more {wr w1 : World} {base : Nat} {f : Fx} {cw k : Nat} {v v' u : Value} {xs : List Value} (h1 : wr.ownsRow base 22 1 v k xs) (h2 : ∀ j, j < k → ∃ u, xs[j]? = some u ∧ wr.ownsRow base 24 1 u 16 (u32s (winR f ((cw + j) % f.nw))))
    (hu : wr.ownsRow base 24 1 u 16 (u32s (winR f ((cw + k) % f.nw)))) (ho : w1.ownsRow base 22 1 v' (k + 1) (xs ++ [u])) (hg : wr.grownBy w1 v.ownBlock) : WRows w1 base f cw (k + 1) v' := by
  refine ⟨xs ++ [u], ho, fun j hj => ?_⟩
  have hl : xs.length = k := by have := h1.1; simpa using this
  by_cases e : j = k
  · subst e
    exact ⟨u, by rw [List.getElem?_append_right (by omega), hl, Nat.sub_self]; rfl, hu.kept hg (owns_apart h1 hu)⟩
  · obtain ⟨u', e1, h3⟩ := h2 j (by omega)
    exact ⟨u', by rw [List.getElem?_append_left (by omega)]; exact e1, h3.kept hg (owns_apart h1 h3)⟩
theorem WRows.at {wr : World} {base : Nat} {f : Fx} {cw k : Nat} {p : Option Addr} {c : Nat} (h : WRows wr base f cw k (.slice p k c)) {j : Nat} (hj : j < k) : ∃ g u, p = some ⟨g, 0, none⟩ ∧ wr.cell? ⟨g, j, none⟩ = some u ∧ wr.ownsRow base 24 1 u 16 (u32s (winR f ((cw + j) % f.nw))) := by
  obtain ⟨xs, h1, h2⟩ := h.ex
  obtain ⟨u, e, h3⟩ := h2 j hj
  rcases h1.2 with ⟨e0, h0⟩ | ⟨g, cap, cur, hv, hg, hh, hc, hm, hs, ht⟩
  · omega
  · cases hv
    refine ⟨g, u, rfl, ?_, h3⟩
    rw [cell_of_obj hh]
    have e2 : cur[j]? = (cur.toList.take (k * 1))[j]? := by rw [Nat.mul_one, List.getElem?_take_of_lt hj]; simp
    rw [e2, ht]; exact e
end Go.Proofs.YtajholbcpmjhiaaGreatDoor
