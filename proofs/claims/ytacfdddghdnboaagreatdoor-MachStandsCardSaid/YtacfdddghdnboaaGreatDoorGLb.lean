/- Several texts in one: AsmApp, StepApp, AsmSpec, AsmAdd, AsmPutLaw. -/
import Derived.Test.YtacfdddghdnboaaGreatDoorGA
import Derived.Test.YtacfdddghdnboaaGreatDoorGLa
import Derived.ArgAppend
import Derived.Laws.AppendOwn
import Derived.Maps.OwnSet
import Derived.Maps.Views
import Derived.Laws.AppendOwnNone
import Derived.OneCell
import Derived.Lib.SliceRun
/- append onto a slice of one's own, of which one wants to know where it lies then: where it lay, or in a new block. -/
namespace Go.Proofs.YtacfdddghdnboaaGreatDoor
open Go

set_option linter.unusedVariables false
variable {P : Program} (w : World)
theorem run_append_place (t ty e : TypeId) (i : TypeInfo) (z : Value) (bytes : Nat) (ht : P.underlying t = some (.slice e)) (hi : P.info? e = some i) (hz : i.zero = some z)
    (hsize : i.size = 1) (hby : i.bytes = bytes) (hzs : z.cells.size = 1) (v : Value) (n : Nat) (xs : List Value) (hown : w.ownsRow 0 e 1 v n xs)
    (a : Addr) (m c : Nat) (news : List Value) (hl : news.length = m * 1) (hnews : ∀ j u, news[j]? = some u → w.cell? (a.add j) = some u) (h1 : ∀ u ∈ news, u.oneCell' = true)
    (h63 : n + m ≤ maxLen) (hbytes : (n + m) * bytes ≤ 140737488355328) :
    ∃ v' w', (Builtin.append_ #[t, t] ty #[v, .slice (some a) m c]).run P w = .ok v' w' ∧ w'.ownsRow 0 e 1 v' (n + m) (xs ++ news) ∧ w.grownBy w' v.ownBlock ∧
      (v'.ownBlock = v.ownBlock ∨ ∀ k, v'.ownBlock = some k → w.heap.size ≤ k) := by
  obtain ⟨v', w', hrun, r1, r2, r3⟩ := run_append_own w 0 t ty e i z 1 bytes ht hi hz hsize hby hzs (by decide) v n xs hown a m c news hl hnews h1 h63 hbytes (Nat.zero_le _)
  refine ⟨v', w', hrun, r1, r2, ?_⟩
  rcases hown.2 with ⟨rfl, rfl⟩ | ⟨g, cap, cur, rfl, hb, hg, hn, hcap, hsz, hxs⟩
  · obtain rfl : xs = [] := List.eq_nil_of_length_eq_zero (by simpa using hown.1)
    obtain ⟨v2, w2, hrun2, s1, _, _⟩ := run_append_own w w.heap.size t ty e i z 1 bytes ht hi hz hsize hby hzs (by decide) (.slice none 0 0) 0 [] (World.ownsRow_nil w _ e 1) a m c news hl hnews h1 h63 hbytes (Nat.le_refl _)
    rw [hrun] at hrun2
    cases hrun2
    exact .inr fun k hk => (s1.lt k hk).1
  · by_cases hr : n + m ≤ cap
    · have hrun2 := run_append_room_cells (P := P) w t ty e i ht hi g 0 n cap a m c news (by rw [hsize]; exact hl) hnews h1 hr (fun j hj => by
        simp only [hsize, Nat.zero_add, Nat.mul_one] at *
        simp only [World.cell?, hg]
        have : n + j < cur.size := by omega
        simp [this]) (fun j hj => by simp [World.frozen?, hg])
      rw [hrun] at hrun2
      cases hrun2
      exact .inl rfl
    · obtain ⟨v2, w2, hrun2, s1, _⟩ := run_append_arg_grows (P := P) w t ty e i z 1 bytes ht hi hz hsize hby hzs (by decide) ⟨g, 0, none⟩ n cap xs hown.1 (hown.cells rfl) a m c news hl hnews (by omega) h63 hbytes
      rw [hrun] at hrun2
      cases hrun2
      exact .inr fun k hk => (s1.lt k hk).1
/-- The same at the operation. -/
theorem wpList_append_place {ops : Array Oper} {rest : List Oper} {o : Oper} {a : Act} {Q : Exit → Act → World → Prop} (hgd : o.guard = none) (s x : Operand) (t : TypeId)
    (ho : o.op = .call { callee := .builtin .append, args := #[s, x], argTypes := #[t, t] }) (e : TypeId) (i : TypeInfo) (z : Value) (bytes : Nat) (ht : P.underlying t = some (.slice e)) (hi : P.info? e = some i) (hz : i.zero = some z)
    (hsize : i.size = 1) (hby : i.bytes = bytes) (hzs : z.cells.size = 1) (v : Value) (n : Nat) (xs : List Value) (hs : a.eval s = v) (hown : w.ownsRow 0 e 1 v n xs)
    (ad : Addr) (m c : Nat) (news : List Value) (hx : a.eval x = .slice (some ad) m c) (hl : news.length = m * 1) (hnews : ∀ j u, news[j]? = some u → w.cell? (ad.add j) = some u) (h1 : ∀ u ∈ news, u.oneCell' = true)
    (h63 : n + m ≤ maxLen) (hbytes : (n + m) * bytes ≤ 140737488355328)
    (h : ∀ v' w', w'.ownsRow 0 e 1 v' (n + m) (xs ++ news) → w.grownBy w' v.ownBlock → (v'.ownBlock = v.ownBlock ∨ ∀ k, v'.ownBlock = some k → w.heap.size ≤ k) → wpList P ops Q rest (a.put o.dst v') w') :
    wpList P ops Q (o :: rest) a w := by
  refine wpList_plain hgd fun K hK' => ?_
  obtain ⟨v', w', hrun, r1, r2, r3⟩ := run_append_place (P := P) w t o.type e i z bytes ht hi hz hsize hby hzs v n xs hown ad m c news hl hnews h1 h63 hbytes
  unfold Oper.wp
  simp [execOp, ho, resolve, invoke, builtin, hs, hx, hrun, Result.andThen]
  exact hK' _ _ (h v' w' r1 r2 r3)
end Go.Proofs.YtacfdddghdnboaaGreatDoor
/- append at a step of a region that draws its order. No function of the program is walked here. -/
namespace Go.Proofs.YtacfdddghdnboaaGreatDoor
open Go.RowKit
set_option linter.unusedVariables false
set_option linter.unusedSimpArgs false
theorem cell_one_new3 (w : World) (v : Value) (T : TypeId) : ∀ (j : Nat) u, [v][j]? = some u → (w.alloc (.cells #[v] T)).cell? ((⟨w.heap.size, 0, none⟩ : Addr).add j) = some u := by
  intro j u hj
  have h := cells_new w #[v] T j u
  exact h (by simpa using hj)
theorem step_append_place {P : Program} (w : World) {ops : Array Oper} {o : Oper} {a : Act} {K : Act → World → Prop} {Q : Exit → Act → World → Prop} {E : Prop} (hgd : o.guard = none) (s x : Operand) (t : TypeId)
    (ho : o.op = .call { callee := .builtin .append, args := #[s, x], argTypes := #[t, t] }) (e : TypeId) (i : TypeInfo) (z : Value) (bytes : Nat) (ht : P.underlying t = some (.slice e)) (hi : P.info? e = some i) (hz : i.zero = some z)
    (hsize : i.size = 1) (hby : i.bytes = bytes) (hzs : z.cells.size = 1) (v : Value) (n : Nat) (xs : List Value) (hs : a.eval s = v) (hown : w.ownsRow 0 e 1 v n xs)
    (ad : Addr) (m c : Nat) (news : List Value) (hx : a.eval x = .slice (some ad) m c) (hl : news.length = m * 1) (hnews : ∀ j u, news[j]? = some u → w.cell? (ad.add j) = some u) (h1 : ∀ u ∈ news, u.oneCell' = true)
    (h63 : n + m ≤ maxLen) (hbytes : (n + m) * bytes ≤ 140737488355328)
    (h : ∀ v' w', w'.ownsRow 0 e 1 v' (n + m) (xs ++ news) → w.grownBy w' v.ownBlock → (v'.ownBlock = v.ownBlock ∨ ∀ k, v'.ownBlock = some k → w.heap.size ≤ k) → K (a.put o.dst v') w') :
    if Region.wanted o (yielded ops a.tmps) = true then Oper.wp P o a w K Q else E := by
  have hw : Region.wanted o (yielded ops a.tmps) = true := by simp [Region.wanted, hgd]
  rw [if_pos hw]
  obtain ⟨v', w', hrun, r1, r2, r3⟩ := run_append_place (P := P) w t o.type e i z bytes ht hi hz hsize hby hzs v n xs hown ad m c news hl hnews h1 h63 hbytes
  unfold Oper.wp execOp
  simp only [ho, resolve, invoke, builtin, Sem.run_bind, Sem.run_pure, Result.andThen_ok, List.map_toArray, List.map_cons, List.map_nil, hs, hx, hrun]
  exact h _ _ r1 r2 r3
theorem ownsRow_shape {w : World} {base : Nat} {e : TypeId} {size n : Nat} {v : Value} {xs : List Value} (h : w.ownsRow base e size v n xs) : ∃ p m c, v = .slice p m c := by
  rcases h.2 with ⟨rfl, _⟩ | ⟨g, cap, cur, rfl, _⟩
  · exact ⟨_, _, _, rfl⟩
  · exact ⟨_, _, _, rfl⟩
end Go.Proofs.YtacfdddghdnboaaGreatDoor
/- A list of instructions with marks, as it lies in the world; what stays when some blocks may change. No function of the program is walked here. -/
namespace Go.Proofs.YtacfdddghdnboaaGreatDoor
open Go.RowKit Go.Maps
set_option linter.unusedVariables false

/-- An instruction that was put, or one that goes to a name. -/
inductive It
  | put (x : Ix)
  | far (x : Ix) (name : ByteArray)
/-- A function value that makes an instruction whole; what it captured lies in blocks of K. -/
def CloAt (w : World) (K : Nat → Prop) (v : Value) : It → Prop
  | .put x => ∃ c, v = .func (.func 136) #[] #[.pointer (some ⟨c, 0, none⟩)] ∧ K c ∧ w.cell? ⟨c, 0, none⟩ = some (.int .u32 (encS x))
  | .far x name => ∃ c d, v = .func (.func 172) #[] #[.pointer (some ⟨c, 0, none⟩), .pointer (some ⟨d, 0, none⟩)] ∧ K c ∧ K d ∧ w.cell? ⟨c, 0, none⟩ = some (.string name) ∧
      (∀ (i : Nat) (u : Value), x.agg.cells[i]? = some u → w.cell? ⟨d, i, none⟩ = some u) ∧ name.size ≤ maxLen ∧ x.bd
theorem CloAt.keep {S K K' : Nat → Prop} {a b : World} {v : Value} {it : It} (h : CloAt a K v it) (o : Only S a b) (hs : ∀ k, K k → ¬ S k) (hk : ∀ k, k < a.heap.size → K k → K' k) : CloAt b K' v it := by
  cases it with
  | put x =>
    obtain ⟨c, h1, h2, h3⟩ := h
    have hc : c < a.heap.size := World.block_lt_of_cell? _ _ h3
    exact ⟨c, h1, hk c hc h2, (o.cell (p := ⟨c, 0, none⟩) hc (hs c h2)).trans h3⟩
  | far x name =>
    obtain ⟨c, d, h1, h2, h3, h4, h5, h6, h7⟩ := h
    have hc : c < a.heap.size := World.block_lt_of_cell? _ _ h4
    have hd : d < a.heap.size := World.block_lt_of_cell? _ _ (h5 0 (.int .u8 x.op) (by simp [Value.cells]))
    exact ⟨c, d, h1, hk c hc h2, hk d hd h3, (o.cell (p := ⟨c, 0, none⟩) hc (hs c h2)).trans h4, fun i u hu => (o.cell (p := ⟨d, i, none⟩) hd (hs d h3)).trans (h5 i u hu), h6, h7⟩

/-- Where a name stands. -/
def look (M : List (List UInt8 × Int)) (nm : List UInt8) : Option Int := (M.find? (fun e => e.1 == nm)).map (·.2)
/-- A map's reading has the marks. -/
structure MarkD (D : DataW Unit) (M : List (List UInt8 × Int)) : Prop where
  map : IsMap D
  has : ∀ nm, Maps.has D (.string nm) = (look M nm).isSome
  at' : ∀ nm z, D.atKey (.string nm) z = match look M nm with | some n => .lit (.int .i64 n) | none => z
theorem MarkD.nil : MarkD (.map []) [] := ⟨isMap_empty, fun nm => rfl, fun nm z => rfl⟩
theorem look_snoc (M : List (List UInt8 × Int)) (nm nm' : List UInt8) (n : Int) : look (M ++ [(nm, n)]) nm' = match look M nm' with | some k => some k | none => if nm = nm' then some n else none := by
  unfold look
  rw [List.find?_append]
  cases h : M.find? (fun e => e.1 == nm') with
  | some e => simp
  | none => by_cases he : nm = nm' <;> simp [he]
theorem MarkD.put {D : DataW Unit} {M : List (List UInt8 × Int)} (h : MarkD D M) (nm : List UInt8) (n : Int) (hn : look M nm = none) : MarkD (D.put (.string nm) (.lit (.int .i64 n))) (M ++ [(nm, n)]) := by
  refine ⟨h.map.put _ _, fun nm' => ?_, fun nm' z => ?_⟩
  · rw [look_snoc]
    by_cases he : nm = nm'
    · subst he
      rw [has_put_same h.map (by trivial), hn]; simp
    · rw [has_put_other (by intro e; exact he (by cases e; rfl)), h.has, if_neg he]
      cases look M nm' <;> rfl
  · rw [look_snoc]
    by_cases he : nm = nm'
    · subst he
      rw [atKey_put_same h.map (by trivial), hn]; simp
    · rw [atKey_put_other (by intro e; exact he (by cases e; rfl)), h.at', if_neg he]
      cases look M nm' <;> rfl

/-- The list at block p: its row is the slice sv, its marks lie at block m; what its function values captured lies in blocks of K. -/
structure AsmAt (w : World) (p : Nat) (sv : Value) (m : Nat) (K : Nat → Prop) (L : List It) (M : List (List UInt8 × Int)) : Prop where
  ptr : w.heap[p]? = some (.cells #[sv, .map (some m)] 138 (0, 0))
  row : ∃ vs : List Value, w.ownsRow 0 145 1 sv L.length vs ∧ vs.length = L.length ∧ ∀ (i : Nat) (v : Value) (it : It), vs[i]? = some v → L[i]? = some it → CloAt w K v it
  marks : ∃ D : DataW Unit, w.ownsMap Tryz.prog 9 (plainElem Tryz.prog 3) m M.length D ∧ MarkD D M
  ne : p ≠ m ∧ sv.ownBlock ≠ some p ∧ sv.ownBlock ≠ some m
  apart : ∀ k, K k → k ≠ p ∧ sv.ownBlock ≠ some k ∧ k ≠ m
/-- A list's own blocks. -/
def Own (p : Nat) (sv : Value) (m : Nat) (k : Nat) : Prop := k = p ∨ sv.ownBlock = some k ∨ k = m
theorem AsmAt.keep {S : Nat → Prop} {a b : World} {p m : Nat} {sv : Value} {K : Nat → Prop} {L : List It} {M : List (List UInt8 × Int)} (h : AsmAt a p sv m K L M) (o : Only S a b) (hs : ∀ k, Own p sv m k → ¬ S k) (hk : ∀ k, K k → ¬ S k) : AsmAt b p sv m K L M := by
  obtain ⟨h1, ⟨vs, h2, h3, h4⟩, ⟨D, ⟨es, cl, hb, F, hz, hD⟩, h6⟩, h7, h8⟩ := h
  refine ⟨o.obj h1 (hs p (.inl rfl)), ⟨vs, ⟨h2.1, ?_⟩, h3, fun i v it hv hi => (h4 i v it hv hi).keep o hk (fun _ _ h => h)⟩, ⟨D, ⟨es, cl, o.obj hb (hs m (.inr (.inr rfl))), F, hz, hD⟩, h6⟩, h7, h8⟩
  rcases h2.2 with h | ⟨g, cap, cur, e1, e2, e3, e4⟩
  · exact .inl h
  · refine .inr ⟨g, cap, cur, e1, e2, o.obj e3 (hs g (.inr (.inl ?_))), e4⟩
    rw [e1]; rfl
/-- What lies beyond the heap is no captured block. -/
theorem AsmAt.trim {w : World} {p m : Nat} {sv : Value} {K : Nat → Prop} {L : List It} {M : List (List UInt8 × Int)} (h : AsmAt w p sv m K L M) : AsmAt w p sv m (fun k => K k ∧ k < w.heap.size) L M := by
  obtain ⟨h1, ⟨vs, h2, h3, h4⟩, h5, h7, h8⟩ := h
  exact ⟨h1, ⟨vs, h2, h3, fun i v it hv hi => (h4 i v it hv hi).keep (Only.refl (fun _ => False) w) (fun _ _ h => h) (fun k hl hk => ⟨hk, hl⟩)⟩, h5, h7, fun k hk => h8 k hk.1⟩
theorem AsmAt.blocks {w : World} {p m : Nat} {sv : Value} {K : Nat → Prop} {L : List It} {M : List (List UInt8 × Int)} (h : AsmAt w p sv m K L M) : p < w.heap.size ∧ m < w.heap.size ∧ ∀ k, sv.ownBlock = some k → k < w.heap.size := by
  obtain ⟨h1, ⟨vs, h2, h3, h4⟩, ⟨D, ⟨es, cl, hb, F, hz, hD⟩, h6⟩, h7, h8⟩ := h
  exact ⟨lt_of_block h1, lt_of_block hb, fun k hk => (h2.lt k hk).2⟩
end Go.Proofs.YtacfdddghdnboaaGreatDoor
/- A list to which function values were added. No function of the program is walked here. -/
namespace Go.Proofs.YtacfdddghdnboaaGreatDoor
open Go.RowKit Go.Maps
set_option linter.unusedVariables false
theorem aobj_setCell {w : World} {g i : Nat} {c : Array Value} {t : TypeId} {fz : Nat × Nat} (h : w.heap[g]? = some (.cells c t fz)) (v : Value) :
    (w.setCell ⟨g, i, none⟩ v).heap[g]? = some (.cells (c.setIfInBounds i v) t fz) := by
  simp [World.setCell, Array.getElem?_modify, h]
theorem AsmAt.add {w w' : World} {p m : Nat} {sv v' : Value} {K K2 : Nat → Prop} {L L2 : List It} {M : List (List UInt8 × Int)} {vs new : List Value} (h : AsmAt w p sv m K L M) (g : w.grownBy w' sv.ownBlock)
    (hr : w'.ownsRow 0 145 1 v' (L.length + L2.length) (vs ++ new)) (hpl : v'.ownBlock = sv.ownBlock ∨ ∀ k, v'.ownBlock = some k → w.heap.size ≤ k) (hlen : vs.length = L.length)
    (hvs : ∀ (i : Nat) (v : Value) (it : It), vs[i]? = some v → L[i]? = some it → CloAt w K v it) (hl2 : new.length = L2.length) (hnew : ∀ (i : Nat) (v : Value) (it : It), new[i]? = some v → L2[i]? = some it → CloAt w K2 v it)
    (hk2 : ∀ k, K2 k → k < w.heap.size ∧ k ≠ p ∧ sv.ownBlock ≠ some k ∧ k ≠ m) (hk : ∀ k, k < w.heap.size → K k → K2 k) :
    AsmAt (w'.setCell ⟨p, 0, none⟩ v') p v' m K2 (L ++ L2) M ∧ Only (Own p sv m) w (w'.setCell ⟨p, 0, none⟩ v') := by
  have on : Only (fun k => sv.ownBlock = some k) w w' := (Only.refl _ w).grown g (fun k hk _ => hk.symm ▸ rfl)
  have on2 : Only (Own p sv m) w (w'.setCell ⟨p, 0, none⟩ v') := (on.mono (fun k _ hk => .inr (.inl hk))).setCell (.inl rfl) _
  have on3 : Only (fun k => k = p ∨ sv.ownBlock = some k) w (w'.setCell ⟨p, 0, none⟩ v') := (on.mono (fun k _ hk => .inr hk)).setCell (.inl rfl) _
  refine ⟨?_, on2⟩
  obtain ⟨h1, _, ⟨D, ⟨es, cl, hb, F, hz, hD⟩, h6⟩, h7, h8⟩ := h
  have hp := lt_of_block h1
  have hm := lt_of_block hb
  have np : v'.ownBlock ≠ some p := by
    rcases hpl with e | e
    · rw [e]; exact h7.2.1
    · intro e2; have := e p e2; omega
  have nm : v'.ownBlock ≠ some m := by
    rcases hpl with e | e
    · rw [e]; exact h7.2.2
    · intro e2; have := e m e2; omega
  refine ⟨?_, ⟨vs ++ new, ?_, by rw [List.length_append, List.length_append, hlen, hl2], ?_⟩, ⟨D, ⟨es, cl, on3.obj hb ?_, F, hz, hD⟩, h6⟩, ⟨h7.1, np, nm⟩, ?_⟩
  · have := aobj_setCell (i := 0) (on.obj h1 h7.2.1) v'
    rw [this]; rfl
  · rw [List.length_append]
    exact ownsRow_setCell_other hr np v'
  · intro i v it hv hi
    by_cases hlt : i < vs.length
    · rw [List.getElem?_append_left hlt] at hv
      rw [List.getElem?_append_left (by omega)] at hi
      exact (hvs i v it hv hi).keep on3 (fun k hk => by
        have := h8 k hk
        rintro (e | e)
        · exact this.1 e
        · exact this.2.1 e) hk
    · rw [List.getElem?_append_right (by omega)] at hv
      rw [List.getElem?_append_right (by omega), ← hlen] at hi
      exact (hnew _ v it hv hi).keep on3 (fun k hk => by
        have := hk2 k hk
        rintro (e | e)
        · exact this.2.1 e
        · exact this.2.2.1 e) (fun _ _ h => h)
  · rintro (e | e)
    · exact h7.1 e.symm
    · exact h7.2.2 e
  · intro k hk
    obtain ⟨a1, a2, a3, a4⟩ := hk2 k hk
    refine ⟨a2, ?_, a4⟩
    rcases hpl with e | e
    · rw [e]; exact a3
    · intro e2; have := e k e2; omega
/-- What an addition leaves. -/
def AddOk (w : World) (p : Nat) (sv : Value) (m : Nat) (K : Nat → Prop) (L : List It) (M : List (List UInt8 × Int)) (L2 : List It) (w' : World) : Prop :=
  ∃ v' K2, AsmAt w' p v' m K2 (L ++ L2) M ∧ Only (Own p sv m) w w' ∧ (∀ k, k < w.heap.size → Own p v' m k → Own p sv m k) ∧ (∀ k, k < w.heap.size → K2 k → K k)
end Go.Proofs.YtacfdddghdnboaaGreatDoor
/- Put of the package asm: what its loop keeps. No function of the program is walked here. -/
namespace Go.Proofs.YtacfdddghdnboaaGreatDoor
open Go.RowKit Go.Maps
set_option linter.unusedVariables false
set_option linter.unusedSimpArgs false
/-- An instruction that lies at a place. -/
structure InsAt (w : World) (b o : Nat) (x : Ix) : Prop where
  c0 : w.cell? ⟨b, o, none⟩ = some (.int .u8 x.op)
  c1 : w.cell? ⟨b, o + 1, none⟩ = some (.int .u8 x.rd)
  c2 : w.cell? ⟨b, o + 2, none⟩ = some (.int .u8 x.rs1)
  c3 : w.cell? ⟨b, o + 3, none⟩ = some (.int .u8 x.rs2)
  c4 : w.cell? ⟨b, o + 4, none⟩ = some (.bool x.is)
  c5 : w.cell? ⟨b, o + 5, none⟩ = some (.int .i32 x.imm)
  bd : x.bd
theorem InsAt.lt {w : World} {b o : Nat} {x : Ix} (h : InsAt w b o x) : b < w.heap.size := World.block_lt_of_cell? _ _ h.c0
theorem InsAt.keep {S : Nat → Prop} {w w' : World} {b o : Nat} {x : Ix} (h : InsAt w b o x) (hb : Only S w w') (hs : ¬ S b) : InsAt w' b o x :=
  have hl := h.lt
  ⟨(hb.cell (p := ⟨b, o, none⟩) hl hs).trans h.c0, (hb.cell (p := ⟨b, o + 1, none⟩) hl hs).trans h.c1, (hb.cell (p := ⟨b, o + 2, none⟩) hl hs).trans h.c2, (hb.cell (p := ⟨b, o + 3, none⟩) hl hs).trans h.c3, (hb.cell (p := ⟨b, o + 4, none⟩) hl hs).trans h.c4, (hb.cell (p := ⟨b, o + 5, none⟩) hl hs).trans h.c5, h.bd⟩
theorem InsAt.keepb {w w' : World} {b o : Nat} {x : Ix} (h : InsAt w b o x) (hb : Below w.heap.size w w') : InsAt w' b o x := h.keep (Only.of_below (S := fun _ => False) hb) id
/-- A slice of instructions, as it is read. -/
def InsIn (w : World) (v : Value) (l : List Ix) : Prop :=
  l.length ≤ maxLen ∧ ∃ p c b o, v = .slice p l.length c ∧ (0 < l.length → p = some ⟨b, o, none⟩) ∧ ∀ k x, l[k]? = some x → InsAt w b (o + k * 6) x
theorem InsIn.keepb {w w' : World} {v : Value} {l : List Ix} (h : InsIn w v l) (hb : Below w.heap.size w w') : InsIn w' v l := by
  obtain ⟨h1, p, c, b, o, h2, h3, h4⟩ := h
  exact ⟨h1, p, c, b, o, h2, h3, fun k x hx => (h4 k x hx).keepb hb⟩
/-- The loop of Put, when k instructions were made whole. -/
structure PutAt (w : World) (l : List Ix) (mv : Value) (k : Nat) (wr : World) : Prop where
  ex : ∃ (vs : List Value) (C : Nat → Prop), wr.ownsRow 0 145 1 mv k vs ∧ vs.length = k ∧ (∀ (i : Nat) (v : Value) (x : Ix), vs[i]? = some v → l[i]? = some x → CloAt wr C v (.put x)) ∧ (∀ i, C i → w.heap.size ≤ i ∧ i < wr.heap.size ∧ mv.ownBlock ≠ some i)
  fresh : ∀ i, mv.ownBlock = some i → w.heap.size ≤ i
  may : ∀ (i : Nat) (x : Ix), i < k → l[i]? = some x → mayP x
  below : Below w.heap.size w wr
theorem PutAt.start (w : World) (l : List Ix) : PutAt w l (.slice none 0 0) 0 w :=
  ⟨⟨[], fun _ => False, World.ownsRow_nil w 0 _ 1, rfl, fun i v x hv => by simp at hv, fun i h => h.elim⟩, fun i h => by simp [Value.ownBlock] at h, fun i x h => by omega, Below.refl _ _⟩
/-- One more. -/
theorem PutAt.more {w wr w2 w3 : World} {l : List Ix} {mv v' : Value} {k : Nat} {x : Ix} (h : PutAt w l mv k wr) (hx : l[k]? = some x) (hm : mayP x) (hb : Below wr.heap.size wr w2) (c : Nat) (hc1 : wr.heap.size ≤ c) (hc2 : c < w2.heap.size) (hc3 : w2.cell? ⟨c, 0, none⟩ = some (.int .u32 (encS x)))
    {vs : List Value} {C : Nat → Prop} (hown : wr.ownsRow 0 145 1 mv k vs) (hlen : vs.length = k) (hvs : ∀ (i : Nat) (v : Value) (x : Ix), vs[i]? = some v → l[i]? = some x → CloAt wr C v (.put x)) (hC : ∀ i, C i → w.heap.size ≤ i ∧ i < wr.heap.size ∧ mv.ownBlock ≠ some i)
    (h3 : w3.ownsRow 0 145 1 v' (k + 1) (vs ++ [.func (.func 136) #[] #[.pointer (some ⟨c, 0, none⟩)]])) (hg : w2.grownBy w3 mv.ownBlock) (hp : v'.ownBlock = mv.ownBlock ∨ ∀ i, v'.ownBlock = some i → w2.heap.size ≤ i) : PutAt w l v' (k + 1) w3 := by
  have hwr := h.below.size
  have o2 : Only (fun i => mv.ownBlock = some i) wr w3 := (Only.of_below hb).grown hg (fun i hi _ => hi.symm ▸ rfl)
  have o3 : Only (fun i => mv.ownBlock = some i) w2 w3 := (Only.refl _ _).grown hg (fun i hi _ => hi.symm ▸ rfl)
  have hne : mv.ownBlock ≠ some c := fun e => by have := (hown.lt c e).2; omega
  refine ⟨⟨_, fun i => C i ∨ i = c, h3, by simp [hlen], ?_, ?_⟩, ?_, ?_, ?_⟩
  · intro i v y hv hy
    by_cases hi : i < vs.length
    · rw [List.getElem?_append_left hi] at hv
      exact (hvs i v y hv hy).keep o2 (fun j hj e => (hC j hj).2.2 e) (fun j _ hj => .inl hj)
    · rw [List.getElem?_append_right (by omega)] at hv
      have hik : i - vs.length = 0 := by
        rcases Nat.eq_zero_or_pos (i - vs.length) with e | e
        · exact e
        · rw [List.getElem?_eq_none (by simp; omega)] at hv; cases hv
      rw [hik] at hv
      simp only [List.getElem?_cons_zero, Option.some.injEq] at hv
      obtain rfl : i = k := by omega
      rw [hx] at hy
      cases hy
      exact ⟨c, hv.symm, .inr rfl, (o3.cell (p := ⟨c, 0, none⟩) hc2 hne).trans hc3⟩
  · have hs3 := hg.size
    have hs2 := hb.size
    rintro i (hi | rfl)
    · obtain ⟨a1, a2, a3⟩ := hC i hi
      refine ⟨a1, by omega, ?_⟩
      rcases hp with e | e
      · rw [e]; exact a3
      · intro e2; have := e i e2; omega
    · refine ⟨by omega, by omega, ?_⟩
      rcases hp with e | e
      · rw [e]; exact hne
      · intro e2; have := e i e2; omega
  · intro i hi
    have hs2 := hb.size
    rcases hp with e | e
    · exact h.fresh i (e ▸ hi)
    · have := e i hi; omega
  · intro i y hi hy
    by_cases hik : i < k
    · exact h.may i y hik hy
    · obtain rfl : i = k := by omega
      rw [hx] at hy; cases hy; exact hm
  · exact o2.below (B := w.heap.size) hwr (fun i hi e => by have := h.fresh i e; omega) |> h.below.trans
/-- What Put leaves. -/
def PutOk (w : World) (p : Nat) (sv : Value) (m : Nat) (K : Nat → Prop) (L : List It) (M : List (List UInt8 × Int)) (l : List Ix) (e : Ending) (w' : World) : Prop :=
  if ∀ x ∈ l, mayP x then e = .returned (.int .i64 0) ∧ AddOk w p sv m K L M (l.map .put) w' else e = .returned (.int .i64 2) ∧ Below w.heap.size w w'
theorem AddOk.of_below {w w1 w' : World} {p m : Nat} {sv : Value} {K : Nat → Prop} {L L2 : List It} {M : List (List UInt8 × Int)} (hb : Below w.heap.size w w1) (h : AddOk w1 p sv m K L M L2 w') : AddOk w p sv m K L M L2 w' := by
  obtain ⟨v', K2, h1, h2, h3, h4⟩ := h
  exact ⟨v', K2, h1, (Only.of_below hb).fresh h2 (fun _ _ h => h), fun k hk => h3 k (Nat.lt_of_lt_of_le hk hb.size), fun k hk => h4 k (Nat.lt_of_lt_of_le hk hb.size)⟩
/-- The end of Put: all are made whole, and there is one at least. -/
theorem PutAt.fin {w wr w3 : World} {l : List Ix} {mv v' : Value} {p m : Nat} {sv : Value} {K : Nat → Prop} {L : List It} {M : List (List UInt8 × Int)} (hA : AsmAt w p sv m K L M) (h : PutAt w l mv l.length wr) {vs : List Value} {C : Nat → Prop}
    (hlen : vs.length = l.length) (hvs : ∀ (i : Nat) (v : Value) (x : Ix), vs[i]? = some v → l[i]? = some x → CloAt wr C v (.put x)) (hC : ∀ i, C i → w.heap.size ≤ i ∧ i < wr.heap.size ∧ mv.ownBlock ≠ some i)
    {us : List Value} (hul : us.length = L.length) (hus : ∀ (i : Nat) (v : Value) (it : It), us[i]? = some v → L[i]? = some it → CloAt wr (fun k => K k ∧ k < w.heap.size) v it)
    (hr : w3.ownsRow 0 145 1 v' (L.length + l.length) (us ++ vs)) (g : wr.grownBy w3 sv.ownBlock) (hpl : v'.ownBlock = sv.ownBlock ∨ ∀ k, v'.ownBlock = some k → wr.heap.size ≤ k) :
    AddOk w p sv m K L M (l.map .put) (w3.setCell ⟨p, 0, none⟩ v') := by
  have hbl := hA.blocks
  have hA2 := (hA.trim).keep (Only.of_below (S := fun _ => False) h.below) (fun _ _ h => h) (fun _ _ h => h)
  have hwr := h.below.size
  have hadd := hA2.add (L2 := l.map .put) (K2 := fun k => (K k ∧ k < w.heap.size) ∨ C k) (vs := us) (new := vs) g (by rw [List.length_map]; exact hr) hpl hul hus (by rw [List.length_map]; exact hlen)
    (fun i v it hv hi => by
      rw [List.getElem?_map] at hi
      cases hli : l[i]? with
      | none => rw [hli] at hi; cases hi
      | some x =>
        rw [hli] at hi
        cases hi
        exact (hvs i v x hv hli).keep (Only.refl (fun _ => False) wr) (fun _ _ h => h) (fun k _ hk => .inr hk))
    (fun k hk => by
      rcases hk with hk | hk
      · exact ⟨by omega, hA.apart k hk.1⟩
      · obtain ⟨a1, a2, a3⟩ := hC k hk
        exact ⟨a2, by omega, fun e => by have := hbl.2.2 k e; omega, by omega⟩)
    (fun k _ hk => .inl hk)
  refine ⟨v', _, hadd.1, ?_, ?_, ?_⟩
  · exact (Only.of_below h.below).fresh hadd.2 (fun _ _ h => h)
  · intro k hk ho
    rcases ho with h | h | h
    · exact .inl h
    · rcases hpl with e | e
      · exact .inr (.inl (e ▸ h))
      · have := e k h; omega
    · exact .inr (.inr h)
  · intro k hk ho
    rcases ho with h | h
    · exact h.1
    · have := (hC k h).1; omega
end Go.Proofs.YtacfdddghdnboaaGreatDoor
