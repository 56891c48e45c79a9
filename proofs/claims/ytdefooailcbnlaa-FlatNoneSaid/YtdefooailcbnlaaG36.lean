/- A frame more: append onto a thread's frames. No function of the program is walked here. -/
import Derived.Test.YtdefooailcbnlaaG26
import Derived.Test.YtdefooailcbnlaaG35
namespace Go.Proofs.Ytdefooailcbnlaa
open Go.RowKit
set_option linter.unusedVariables false
set_option linter.unusedSimpArgs false
theorem run_append_placeN {P : Program} (w : World) (t ty e : TypeId) (i : TypeInfo) (z : Value) (size bytes : Nat) (ht : P.underlying t = some (.slice e)) (hi : P.info? e = some i) (hz : i.zero = some z)
    (hsize : i.size = size) (hby : i.bytes = bytes) (hzs : z.cells.size = size) (hsz : 0 < size) (v : Value) (n : Nat) (xs : List Value) (hown : w.ownsRow 0 e size v n xs)
    (a : Addr) (m c : Nat) (news : List Value) (hl : news.length = m * size) (hnews : ∀ j u, news[j]? = some u → w.cell? (a.add j) = some u) (h1 : ∀ u ∈ news, u.oneCell' = true)
    (h63 : n + m ≤ maxLen) (hbytes : (n + m) * bytes ≤ 140737488355328) :
    ∃ v' w', (Builtin.append_ #[t, t] ty #[v, .slice (some a) m c]).run P w = .ok v' w' ∧ w'.ownsRow 0 e size v' (n + m) (xs ++ news) ∧ w.grownBy w' v.ownBlock ∧
      (v'.ownBlock = v.ownBlock ∨ ∀ k, v'.ownBlock = some k → w.heap.size ≤ k) := by
  obtain ⟨v', w', hrun, r1, r2, r3⟩ := run_append_own w 0 t ty e i z size bytes ht hi hz hsize hby hzs hsz v n xs hown a m c news hl hnews h1 h63 hbytes (Nat.zero_le _)
  refine ⟨v', w', hrun, r1, r2, ?_⟩
  rcases hown.2 with ⟨rfl, rfl⟩ | ⟨g, cap, cur, rfl, hb, hg, hn, hcap, hsz2, hxs⟩
  · obtain rfl : xs = [] := List.eq_nil_of_length_eq_zero (by simpa using hown.1)
    obtain ⟨v2, w2, hrun2, s1, _, _⟩ := run_append_own w w.heap.size t ty e i z size bytes ht hi hz hsize hby hzs hsz (.slice none 0 0) 0 [] (World.ownsRow_nil w _ e size) a m c news hl hnews h1 h63 hbytes (Nat.le_refl _)
    rw [hrun] at hrun2
    cases hrun2
    exact .inr fun k hk => (s1.lt k hk).1
  · by_cases hr : n + m ≤ cap
    · have hnm : n * size + m * size ≤ cap * size := by rw [← Nat.add_mul]; exact Nat.mul_le_mul_right _ hr
      have hrun2 := run_append_room_cells (P := P) w t ty e i ht hi g 0 n cap a m c news (by rw [hsize]; exact hl) hnews h1 hr (fun j hj => by
        simp only [hsize, Nat.zero_add]
        simp only [World.cell?, hg]
        have : n * size + j < cur.size := by omega
        simp [this]) (fun j hj => by simp [World.frozen?, hg])
      rw [hrun] at hrun2
      cases hrun2
      exact .inl rfl
    · obtain ⟨v2, w2, hrun2, s1, _⟩ := run_append_arg_grows (P := P) w t ty e i z size bytes ht hi hz hsize hby hzs hsz ⟨g, 0, none⟩ n cap xs hown.1 (hown.cells rfl) a m c news hl hnews (by omega) h63 hbytes
      rw [hrun] at hrun2
      cases hrun2
      exact .inr fun k hk => (s1.lt k hk).1
theorem step_append_placeN {P : Program} (w : World) {ops : Array Oper} {o : Oper} {a : Act} {K : Act → World → Prop} {Q : Exit → Act → World → Prop} {E : Prop} (hgd : o.guard = none) (s x : Operand) (t : TypeId)
    (ho : o.op = .call { callee := .builtin .append, args := #[s, x], argTypes := #[t, t] }) (e : TypeId) (i : TypeInfo) (z : Value) (size bytes : Nat) (ht : P.underlying t = some (.slice e)) (hi : P.info? e = some i) (hz : i.zero = some z)
    (hsize : i.size = size) (hby : i.bytes = bytes) (hzs : z.cells.size = size) (hsz : 0 < size) (v : Value) (n : Nat) (xs : List Value) (hs : a.eval s = v) (hown : w.ownsRow 0 e size v n xs)
    (ad : Addr) (m c : Nat) (news : List Value) (hx : a.eval x = .slice (some ad) m c) (hl : news.length = m * size) (hnews : ∀ j u, news[j]? = some u → w.cell? (ad.add j) = some u) (h1 : ∀ u ∈ news, u.oneCell' = true)
    (h63 : n + m ≤ maxLen) (hbytes : (n + m) * bytes ≤ 140737488355328)
    (h : ∀ v' w', w'.ownsRow 0 e size v' (n + m) (xs ++ news) → w.grownBy w' v.ownBlock → (v'.ownBlock = v.ownBlock ∨ ∀ k, v'.ownBlock = some k → w.heap.size ≤ k) → K (a.put o.dst v') w') :
    if Region.wanted o (yielded ops a.tmps) = true then Oper.wp P o a w K Q else E := by
  have hw : Region.wanted o (yielded ops a.tmps) = true := by simp [Region.wanted, hgd]
  rw [if_pos hw]
  obtain ⟨v', w', hrun, r1, r2, r3⟩ := run_append_placeN (P := P) w t o.type e i z size bytes ht hi hz hsize hby hzs hsz v n xs hown ad m c news hl hnews h1 h63 hbytes
  unfold Oper.wp execOp
  simp only [ho, resolve, invoke, builtin, Sem.run_bind, Sem.run_pure, Result.andThen_ok, List.map_toArray, List.map_cons, List.map_nil, hs, hx, hrun]
  exact h _ _ r1 r2 r3
theorem MdlAt.push {w w1 w' : World} {p : Prg} {G : Gh} {m : Nat} {s : Mdl} (h : MdlAt w p G m s) {t : Nat} {l : List Fr} (hl : s.thr[t]? = some l) {g cap : Nat} (hv : G.vs[t]? = some (.slice (some ⟨g, 0, none⟩) l.length cap)) (hg : G.R g = .frs t) (c : List (Fr × Nat)) (hc : c.map (·.1) = l)
    (hcr : ∀ (j : Nat) x, c[j]? = some x → G.R x.2 = .regs t j ∧ RegsAt w x.2 x.1.regs) (hb : Below w.heap.size w w1) (nf : Fr) (kn : Nat) (hk : w.heap.size ≤ kn) (hkr : RegsAt w1 kn nf.regs) (v' : Value) (hown : w'.ownsRow 0 78 4 v' (l.length + 1) (c.flatMap frC ++ frC (nf, kn))) (hgr : w1.grownBy w' (some g))
    (hpl : v'.ownBlock = some g ∨ ∀ k, v'.ownBlock = some k → w1.heap.size ≤ k) : Goes w p G m { s with thr := s.thr.set t (l ++ [nf]) } (w'.setCell ⟨G.tb, t, none⟩ v') := by
  have htl := (List.getElem?_eq_some_iff.1 hl).1
  have htv : t < G.vs.length := by rw [h.vl]; exact htl
  have hgl : g < w.heap.size := h.lt g (by rw [hg]; simp)
  have htbl : G.tb < w.heap.size := h.lt _ (by rw [h.rt]; simp)
  have hgtb : g ≠ G.tb := fun e => by have := h.rt; rw [← e, hg] at this; cases this
  have hknl := hkr.lt
  have hkng : kn ≠ g := by omega
  have hkntb : kn ≠ G.tb := by omega
  obtain ⟨g', cap', rfl⟩ : ∃ g' cap', v' = .slice (some ⟨g', 0, none⟩) (l.length + 1) cap' := by
    rcases hown.2 with ⟨_, h2⟩ | ⟨g', cap', cur, h1, _⟩
    · omega
    · exact ⟨g', cap', h1⟩
  have hpl' : g' = g ∨ w1.heap.size ≤ g' := by
    rcases hpl with e | e
    · exact .inl (by simpa [Value.ownBlock] using e)
    · exact .inr (e g' rfl)
  have hbs := hb.size
  have hgrs := hgr.size
  have hg'tb : g' ≠ G.tb := by rcases hpl' with e | e; (· rw [e]; exact hgtb); (· omega)
  have hkng' : kn ≠ g' := by rcases hpl' with e | e; (· rw [e]; exact hkng); (· omega)
  have hbk : ∀ k, k < w.heap.size → k ≠ g → w'.heap[k]? = w.heap[k]? := fun k hk hkg => (hgr.block k (Nat.lt_of_lt_of_le hk hbs) (by simpa using hkg)).trans (hb.block k hk)
  have ho : Only (fun k => k = g ∨ k = G.tb) w (w'.setCell ⟨G.tb, t, none⟩ (.slice (some ⟨g', 0, none⟩) (l.length + 1) cap')) :=
    ((Only.of_below hb).grown hgr (fun k hk _ => by cases hk; exact .inl rfl)).setCell (p := ⟨G.tb, t, none⟩) (.inr rfl) _
  have hset : Only (fun k => k = G.tb) w' (w'.setCell ⟨G.tb, t, none⟩ (.slice (some ⟨g', 0, none⟩) (l.length + 1) cap')) := (Only.refl (fun k => k = G.tb) w').setCell (p := ⟨G.tb, t, none⟩) rfl _
  have hR : ∀ k, G.R k ≠ .none → (if k = g' then Role.frs t else if k = kn then Role.regs t l.length else G.R k) = G.R k := fun k hk => by
    have hlt := h.lt k hk
    split
    · rename_i e
      rcases hpl' with e2 | e2
      · rw [e, e2, hg]
      · omega
    · split
      · omega
      · rfl
  have hg'l : g' < w'.heap.size := (hown.lt g' rfl).2
  have hcl : c.length = l.length := by rw [← hc, List.length_map]
  have hb9 := h.thr1 htl ho (fun k => if k = g' then Role.frs t else if k = kn then Role.regs t l.length else G.R k) hR (fun k hk => by
      have hs9 := hset.size
      try dsimp only at hk
      split at hk
      · omega
      · split at hk
        · omega
        · exact Nat.lt_of_lt_of_le (h.lt k hk) ho.size) (fun k hk => by
      rcases hk with e | e
      · exact .inr (.inl (by rw [e]; exact hg))
      · exact .inl (by rw [e]; exact h.rt)) (v' := .slice (some ⟨g', 0, none⟩) (l.length + 1) cap') (l' := l ++ [nf])
    ((h.thr.of_block (hbk _ htbl (fun e => hgtb e.symm))).set htv _)
    ⟨⟨g', cap', c ++ [(nf, kn)], by simp, by simp, by simp [hc], ?_, fun j x hx => ?_⟩⟩ (fun k hk => by
      try dsimp only at hk
      split at hk
      · cases hk
      · split at hk
        · cases hk
        · exact hk)
  · refine ⟨_, hb9, ho.mono (fun k _ hk => ?_), fun k hk => ?_⟩
    · rcases hk with e | e
      · rw [e]; exact ⟨by rw [hg]; simp, by rw [hg]; simp⟩
      · rw [e]; exact ⟨by rw [h.rt]; simp, by rw [h.rt]; simp⟩
    · show (if k = g' then Role.frs t else if k = kn then Role.regs t l.length else G.R k) = G.R k
      split
      · rename_i e
        rcases hpl' with e2 | e2
        · rw [e, e2, hg]
        · omega
      · split
        · omega
        · rfl
  · rw [List.length_append, List.flatMap_append]
    have := hown.keepw hset (fun b hb e => by simp [Value.ownBlock] at hb; exact hg'tb (hb.trans e))
    simpa using this
  · rcases Nat.lt_or_ge j l.length with hj | hj
    · rw [List.getElem?_append_left (by omega)] at hx
      obtain ⟨a, b⟩ := hcr j x hx
      have hxl : x.2 < w.heap.size := b.lt
      have hxg : x.2 ≠ g := fun e => by rw [e, hg] at a; cases a
      have hxtb : x.2 ≠ G.tb := fun e => by rw [e, h.rt] at a; cases a
      refine ⟨(hR x.2 (by rw [a]; simp)).trans a, (b.of_block (hbk _ hxl hxg)).of_block (hset.block _ (by omega) hxtb)⟩
    · rw [List.getElem?_append_right (by omega)] at hx
      obtain rfl : j = l.length := by
        rcases Nat.lt_or_ge (j - c.length) 1 with h1 | h1
        · omega
        · rw [List.getElem?_eq_none (by simpa using h1)] at hx; cases hx
      rw [hcl, Nat.sub_self] at hx
      simp only [List.getElem?_cons_zero, Option.some.injEq] at hx
      subst hx
      refine ⟨?_, (hkr.of_block (hgr.block kn hknl (by simpa using hkng))).of_block (hset.block _ (by omega) hkntb)⟩
      show (if kn = g' then Role.frs t else if kn = kn then Role.regs t l.length else G.R kn) = _
      rw [if_neg hkng', if_pos rfl]
end Go.Proofs.Ytdefooailcbnlaa
