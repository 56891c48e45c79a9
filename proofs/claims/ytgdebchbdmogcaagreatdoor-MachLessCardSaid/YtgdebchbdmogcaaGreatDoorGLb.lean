/- Several texts in one: AsmApp, StepApp, AsmSpec, AsmAdd, AsmPutLaw. -/
import Derived.Test.YtgdebchbdmogcaaGreatDoorGA
import Derived.Test.YtgdebchbdmogcaaGreatDoorGLa
import Derived.ArgAppend
import Derived.Laws.AppendOwn
import Derived.Maps.OwnSet
import Derived.Maps.Views
import Derived.Laws.AppendOwnNone
import Derived.OneCell
import Derived.Lib.SliceRun
/- append onto a slice of one's own, of which one wants to know where it lies then: where it lay, or in a new block. -/
namespace Go.Proofs.YtgdebchbdmogcaaGreatDoor
open Go

set_option linter.unusedVariables false
variable {P : Program} (w : World)
theorem run_append_place (t ty e : TypeId) (i : TypeInfo) (z : Value) (bytes : Nat) (ht : P.underlying t = some (.slice e)) (hi : P.info? e = some i) (hz : i.zero = some z)
    (hsize : i.size = 1) (hby : i.bytes = bytes) (hzs : z.cells.size = 1) (v : Value) (n : Nat) (xs : List Value) (hown : w.ownsRow 0 e 1 v n xs)
    (a : Addr) (m c : Nat) (news : List Value) (hl : news.length = m * 1) (hnews : ∀ j u, news[j]? = some u → w.cell? (a.add j) = some u) (h1 : ∀ u ∈ news, u.oneCell' = true)
    (h63 : n + m ≤ maxLen) (hbytes : (n + m) * bytes ≤ 140737488355328) :
    ∃ v' w', (Builtin.append_ #[t, t] ty #[v, .slice (some a) m c]).run P w = .ok v' w' ∧ w'.ownsRow 0 e 1 v' (n + m) (xs ++ news) ∧ w.grownBy w' v.ownBlock ∧
      (v'.ownBlock = v.ownBlock ∨ ∀ k, v'.ownBlock = some k → w.heap.size ≤ k) := by
  obtain ⟨v', w', hrun, r1, r2, r3⟩ := run_append_own w 0 t ty e i z 1 bytes ht hi hz hsize hby hzs (by decide) v n xs hown a m c news hl hnews h1 h63 hbytes (Nat.zero_le _)
  refine ⟨v', w', hrun, r1, r2, ?_⟩
  rcases hown.2 with ⟨rfl, rfl⟩ | ⟨g, cap, cur, rfl, hb, hg, hn, hcap, hsz, hxs⟩
  · obtain rfl : xs = [] := List.eq_nil_of_length_eq_zero (by simpa using hown.1)
    obtain ⟨v2, w2, hrun2, s1, _, _⟩ := run_append_own w w.heap.size t ty e i z 1 bytes ht hi hz hsize hby hzs (by decide) (.slice none 0 0) 0 [] (World.ownsRow_nil w _ e 1) a m c news hl hnews h1 h63 hbytes (Nat.le_refl _)
    rw [hrun] at hrun2
    cases hrun2
    exact .inr fun k hk => (s1.lt k hk).1
  · by_cases hr : n + m ≤ cap
    · have hrun2 := run_append_room_cells (P := P) w t ty e i ht hi g 0 n cap a m c news (by rw [hsize]; exact hl) hnews h1 hr (fun j hj => by
        simp only [hsize, Nat.zero_add, Nat.mul_one] at *
        simp only [World.cell?, hg]
        have : n + j < cur.size := by omega
        simp [this]) (fun j hj => by simp [World.frozen?, hg])
      rw [hrun] at hrun2
      cases hrun2
      exact .inl rfl
    · obtain ⟨v2, w2, hrun2, s1, _⟩ := run_append_arg_grows (P := P) w t ty e i z 1 bytes ht hi hz hsize hby hzs (by decide) ⟨g, 0, none⟩ n cap xs hown.1 (hown.cells rfl) a m c news hl hnews (by omega) h63 hbytes
      rw [hrun] at hrun2
      cases hrun2
      exact .inr fun k hk => (s1.lt k hk).1
/-- The same at the operation. -/
theorem wpList_append_place {ops : Array Oper} {rest : List Oper} {o : Oper} {a : Act} {Q : Exit → Act → World → Prop} (hgd : o.guard = none) (s x : Operand) (t : TypeId)
    (ho : o.op = .call { callee := .builtin .append, args := #[s, x], argTypes := #[t, t] }) (e : TypeId) (i : TypeInfo) (z : Value) (bytes : Nat) (ht : P.underlying t = some (.slice e)) (hi : P.info? e = some i) (hz : i.zero = some z)
    (hsize : i.size = 1) (hby : i.bytes = bytes) (hzs : z.cells.size = 1) (v : Value) (n : Nat) (xs : List Value) (hs : a.eval s = v) (hown : w.ownsRow 0 e 1 v n xs)
    (ad : Addr) (m c : Nat) (news : List Value) (hx : a.eval x = .slice (some ad) m c) (hl : news.length = m * 1) (hnews : ∀ j u, news[j]? = some u → w.cell? (ad.add j) = some u) (h1 : ∀ u ∈ news, u.oneCell' = true)
    (h63 : n + m ≤ maxLen) (hbytes : (n + m) * bytes ≤ 140737488355328)
    (h : ∀ v' w', w'.ownsRow 0 e 1 v' (n + m) (xs ++ news) → w.grownBy w' v.ownBlock → (v'.ownBlock = v.ownBlock ∨ ∀ k, v'.ownBlock = some k → w.heap.size ≤ k) → wpList P ops Q rest (a.put o.dst v') w') :
    wpList P ops Q (o :: rest) a w := by
  refine wpList_plain hgd fun K hK' => ?_
  obtain ⟨v', w', hrun, r1, r2, r3⟩ := run_append_place (P := P) w t o.type e i z bytes ht hi hz hsize hby hzs v n xs hown ad m c news hl hnews h1 h63 hbytes
  unfold Oper.wp
  simp [execOp, ho, resolve, invoke, builtin, hs, hx, hrun, Result.andThen]
  exact hK' _ _ (h v' w' r1 r2 r3)
end Go.Proofs.YtgdebchbdmogcaaGreatDoor
/- append at a step of a region that draws its order. No function of the program is walked here. -/
namespace Go.Proofs.YtgdebchbdmogcaaGreatDoor
open Go.RowKit
set_option linter.unusedVariables false
set_option linter.unusedSimpArgs false
theorem cell_one_new3 (w : World) (v : Value) (T : TypeId) : ∀ (j : Nat) u, [v][j]? = some u → (w.alloc (.cells #[v] T)).cell? ((⟨w.heap.size, 0, none⟩ : Addr).add j) = some u := by
  intro j u hj
  have h := cells_new w #[v] T j u
  exact h (by simpa using hj)
theorem step_append_place {P : Program} (w : World) {ops : Array Oper} {o : Oper} {a : Act} {K : Act → World → Prop} {Q : Exit → Act → World → Prop} {E : Prop} (hgd : o.guard = none) (s x : Operand) (t : TypeId)
    (ho : o.op = .call { callee := .builtin .append, args := #[s, x], argTypes := #[t, t] }) (e : TypeId) (i : TypeInfo) (z : Value) (bytes : Nat) (ht : P.underlying t = some (.slice e)) (hi : P.info? e = some i) (hz : i.zero = some z)
    (hsize : i.size = 1) (hby : i.bytes = bytes) (hzs : z.cells.size = 1) (v : Value) (n : Nat) (xs : List Value) (hs : a.eval s = v) (hown : w.ownsRow 0 e 1 v n xs)
    (ad : Addr) (m c : Nat) (news : List Value) (hx : a.eval x = .slice (some ad) m c) (hl : news.length = m * 1) (hnews : ∀ j u, news[j]? = some u → w.cell? (ad.add j) = some u) (h1 : ∀ u ∈ news, u.oneCell' = true)
    (h63 : n + m ≤ maxLen) (hbytes : (n + m) * bytes ≤ 140737488355328)
    (h : ∀ v' w', w'.ownsRow 0 e 1 v' (n + m) (xs ++ news) → w.grownBy w' v.ownBlock → (v'.ownBlock = v.ownBlock ∨ ∀ k, v'.ownBlock = some k → w.heap.size ≤ k) → K (a.put o.dst v') w') :
    if Region.wanted o (yielded ops a.tmps) = true then Oper.wp P o a w K Q else E := by
  have hw : Region.wanted o (yielded ops a.tmps) = true := by simp [Region.wanted, hgd]
  rw [if_pos hw]
  obtain ⟨v', w', hrun, r1, r2, r3⟩ := run_append_place (P := P) w t o.type e i z bytes ht hi hz hsize hby hzs v n xs hown ad m c news hl hnews h1 h63 hbytes
  unfold Oper.wp execOp
  simp only [ho, resolve, invoke, builtin, Sem.run_bind, Sem.run_pure, Result.andThen_ok, List.map_toArray, List.map_cons, List.map_nil, hs, hx, hrun]
  exact h _ _ r1 r2 r3
theorem ownsRow_shape {w : World} {base : Nat} {e : TypeId} {size n : Nat} {v : Value} {xs : List Value} (h : w.ownsRow base e size v n xs) : ∃ p m c, v = .slice p m c := by
  rcases h.2 with ⟨rfl, _⟩ | ⟨g, cap, cur, rfl, _⟩
  · exact ⟨_, _, _, rfl⟩
  · exact ⟨_, _, _, rfl⟩
end Go.Proofs.YtgdebchbdmogcaaGreatDoor
/- A list of instructions with marks, as it lies in the world; what stays when some blocks may change. No function of the program is walked here. -/
namespace Go.Proofs.YtgdebchbdmogcaaGreatDoor
open Go.RowKit Go.Maps
set_option linter.unusedVariables false

/-- An instruction that was put, or one that goes to a name. -/
inductive It
  | put (x : Ix)
  | far (x : Ix) (name : ByteArray)
/-- Where a name stands. -/
def look (M : List (List UInt8 × Int)) (nm : List UInt8) : Option Int := (M.find? (fun e => e.1 == nm)).map (·.2)
/-- A map's reading has the marks. -/
structure MarkD (D : DataW Unit) (M : List (List UInt8 × Int)) : Prop where
  map : IsMap D
  has : ∀ nm, Maps.has D (.string nm) = (look M nm).isSome
  at' : ∀ nm z, D.atKey (.string nm) z = match look M nm with | some n => .lit (.int .i64 n) | none => z
theorem MarkD.nil : MarkD (.map []) [] := ⟨isMap_empty, fun nm => rfl, fun nm z => rfl⟩
theorem look_snoc (M : List (List UInt8 × Int)) (nm nm' : List UInt8) (n : Int) : look (M ++ [(nm, n)]) nm' = match look M nm' with | some k => some k | none => if nm = nm' then some n else none := by
  unfold look
  rw [List.find?_append]
  cases h : M.find? (fun e => e.1 == nm') with
  | some e => simp
  | none => by_cases he : nm = nm' <;> simp [he]
theorem MarkD.put {D : DataW Unit} {M : List (List UInt8 × Int)} (h : MarkD D M) (nm : List UInt8) (n : Int) (hn : look M nm = none) : MarkD (D.put (.string nm) (.lit (.int .i64 n))) (M ++ [(nm, n)]) := by
  refine ⟨h.map.put _ _, fun nm' => ?_, fun nm' z => ?_⟩
  · rw [look_snoc]
    by_cases he : nm = nm'
    · subst he
      rw [has_put_same h.map (by trivial), hn]; simp
    · rw [has_put_other (by intro e; exact he (by cases e; rfl)), h.has, if_neg he]
      cases look M nm' <;> rfl
  · rw [look_snoc]
    by_cases he : nm = nm'
    · subst he
      rw [atKey_put_same h.map (by trivial), hn]; simp
    · rw [atKey_put_other (by intro e; exact he (by cases e; rfl)), h.at', if_neg he]
      cases look M nm' <;> rfl

/-- A list's own blocks. -/
def Own (p : Nat) (sv : Value) (m : Nat) (k : Nat) : Prop := k = p ∨ sv.ownBlock = some k ∨ k = m
end Go.Proofs.YtgdebchbdmogcaaGreatDoor
/- A list to which function values were added. No function of the program is walked here. -/
namespace Go.Proofs.YtgdebchbdmogcaaGreatDoor
open Go.RowKit Go.Maps
set_option linter.unusedVariables false
theorem aobj_setCell {w : World} {g i : Nat} {c : Array Value} {t : TypeId} {fz : Nat × Nat} (h : w.heap[g]? = some (.cells c t fz)) (v : Value) :
    (w.setCell ⟨g, i, none⟩ v).heap[g]? = some (.cells (c.setIfInBounds i v) t fz) := by
  simp [World.setCell, Array.getElem?_modify, h]
end Go.Proofs.YtgdebchbdmogcaaGreatDoor
/- Put of the package asm: what its loop keeps. No function of the program is walked here. -/
namespace Go.Proofs.YtgdebchbdmogcaaGreatDoor
open Go.RowKit Go.Maps
set_option linter.unusedVariables false
set_option linter.unusedSimpArgs false
/-- An instruction that lies at a place. -/
structure InsAt (w : World) (b o : Nat) (x : Ix) : Prop where
  c0 : w.cell? ⟨b, o, none⟩ = some (.int .u8 x.op)
  c1 : w.cell? ⟨b, o + 1, none⟩ = some (.int .u8 x.rd)
  c2 : w.cell? ⟨b, o + 2, none⟩ = some (.int .u8 x.rs1)
  c3 : w.cell? ⟨b, o + 3, none⟩ = some (.int .u8 x.rs2)
  c4 : w.cell? ⟨b, o + 4, none⟩ = some (.bool x.is)
  c5 : w.cell? ⟨b, o + 5, none⟩ = some (.int .i32 x.imm)
  bd : x.bd
theorem InsAt.lt {w : World} {b o : Nat} {x : Ix} (h : InsAt w b o x) : b < w.heap.size := World.block_lt_of_cell? _ _ h.c0
theorem InsAt.keep {S : Nat → Prop} {w w' : World} {b o : Nat} {x : Ix} (h : InsAt w b o x) (hb : Only S w w') (hs : ¬ S b) : InsAt w' b o x :=
  have hl := h.lt
  ⟨(hb.cell (p := ⟨b, o, none⟩) hl hs).trans h.c0, (hb.cell (p := ⟨b, o + 1, none⟩) hl hs).trans h.c1, (hb.cell (p := ⟨b, o + 2, none⟩) hl hs).trans h.c2, (hb.cell (p := ⟨b, o + 3, none⟩) hl hs).trans h.c3, (hb.cell (p := ⟨b, o + 4, none⟩) hl hs).trans h.c4, (hb.cell (p := ⟨b, o + 5, none⟩) hl hs).trans h.c5, h.bd⟩
theorem InsAt.keepb {w w' : World} {b o : Nat} {x : Ix} (h : InsAt w b o x) (hb : Below w.heap.size w w') : InsAt w' b o x := h.keep (Only.of_below (S := fun _ => False) hb) id
/-- A slice of instructions, as it is read. -/
def InsIn (w : World) (v : Value) (l : List Ix) : Prop :=
  l.length ≤ maxLen ∧ ∃ p c b o, v = .slice p l.length c ∧ (0 < l.length → p = some ⟨b, o, none⟩) ∧ ∀ k x, l[k]? = some x → InsAt w b (o + k * 6) x
theorem InsIn.keepb {w w' : World} {v : Value} {l : List Ix} (h : InsIn w v l) (hb : Below w.heap.size w w') : InsIn w' v l := by
  obtain ⟨h1, p, c, b, o, h2, h3, h4⟩ := h
  exact ⟨h1, p, c, b, o, h2, h3, fun k x hx => (h4 k x hx).keepb hb⟩
end Go.Proofs.YtgdebchbdmogcaaGreatDoor
