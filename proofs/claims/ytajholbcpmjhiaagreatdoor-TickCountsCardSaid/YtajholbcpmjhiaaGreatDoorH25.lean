/- Several texts in one: TickRun, AppPlus, AppCopy, PsrOpen, InstOpen, MachOpen, MachLevels, MachApart, MachUse, MachLoad. -/
import Derived.Test.YtajholbcpmjhiaaGreatDoorH24
import Derived.Maps.AppendAt
import Derived.Deep.Slices
set_option linter.unusedVariables false
set_option linter.unusedSimpArgs false
/- Plain law: the runs of a machine that counts and is interrupted; how many were taken. No program in sight. -/
namespace Go.Proofs.YtajholbcpmjhiaaGreatDoor
open Go.RowKit
structure Tk where
  c : Nat
  st : List (Nat × Nat)
  cnt : Nat → Nat
  out : Nat → Nat
def Tk.zero : Tk := ⟨0, [], fun _ => 0, fun _ => 0⟩
def tkTake (pil : Int) (st : List (Nat × Nat)) (v : Nat) : Prop := v < 16 ∧ tkMask pil st < (v : Int)
instance (pil : Int) (st : List (Nat × Nat)) (v : Nat) : Decidable (tkTake pil st v) := by unfold tkTake; infer_instance
def tkOn : List (Nat × Nat) → List (Nat × Nat)
  | [] => []
  | (l, left) :: r => if left = 1 then r else (l, left - 1) :: r
def Tk.step (pil : Int) (s : Tk) (v : Nat) : Tk :=
  if tkTake pil s.st v then ⟨s.c, (v, 5) :: s.st, s.cnt, bump s.out v⟩
  else ⟨if s.st = [] then s.c + 1 else s.c, tkOn s.st, (match s.st with | (l, 2) :: _ => bump s.cnt l | _ => s.cnt), s.out⟩
def Tk.run (pil : Int) (s : Tk) (vs : List Nat) : Tk := vs.foldl (Tk.step pil) s
def pendL : List (Nat × Nat) → Nat → Nat
  | [], _ => 0
  | (l, k) :: r, j => (if l = j ∧ 2 ≤ k then 1 else 0) + pendL r j
structure TkOk (pil : Int) (n : Nat) (s : Tk) : Prop where
  bal : ∀ j, s.out j = s.cnt j + pendL s.st j
  c : s.c ≤ n
  out : ∀ j, s.out j ≤ n
  pos : ∀ e ∈ s.st, 1 ≤ e.2 ∧ e.2 ≤ 5
  len : s.st.length ≤ n
  lev : ∀ e ∈ s.st, e.1 < 16
theorem TkOk.zero (pil : Int) : TkOk pil 0 Tk.zero := ⟨fun _ => rfl, Nat.le_refl _, fun _ => Nat.le_refl _, fun e he => by simp [Tk.zero] at he, Nat.le_refl _, fun e he => by simp [Tk.zero] at he⟩
theorem TkOk.cnt {pil : Int} {n : Nat} {s : Tk} (h : TkOk pil n s) (j : Nat) : s.cnt j ≤ n := by have := h.bal j; have := h.out j; omega
theorem TkOk.step {pil : Int} {n : Nat} {s : Tk} (h : TkOk pil n s) (v : Nat) : TkOk pil (n + 1) (s.step pil v) := by
  obtain ⟨hb, hc, ho, hp, hln, hlv⟩ := h
  unfold Tk.step
  by_cases ht : tkTake pil s.st v
  · rw [if_pos ht]
    refine ⟨fun j => ?_, by show s.c ≤ n + 1; omega, fun j => ?_, fun e he => ?_, by show s.st.length + 1 ≤ n + 1; omega, fun e he => ?_⟩
    · show bump s.out v j = s.cnt j + ((if v = j ∧ 2 ≤ 5 then 1 else 0) + pendL s.st j)
      unfold bump
      have := hb j
      by_cases e : j = v
      · rw [if_pos e, if_pos ⟨e.symm, by decide⟩]; omega
      · rw [if_neg e, if_neg (fun h => e h.1.symm)]; omega
    · show bump s.out v j ≤ n + 1
      unfold bump; have := ho j; split <;> omega
    · rcases List.mem_cons.1 he with rfl | he
      · exact ⟨by show 1 ≤ 5; decide, by show 5 ≤ 5; decide⟩
      · exact hp e he
    · rcases List.mem_cons.1 he with rfl | he
      · exact ht.1
      · exact hlv e he
  · rw [if_neg ht]
    obtain ⟨c, st, cnt, out⟩ := s
    cases st with
    | nil => exact ⟨hb, by show c + 1 ≤ n + 1; have : c ≤ n := hc; omega, fun j => by have : out j ≤ n := ho j; show out j ≤ n + 1; omega, fun e he => by simp [tkOn] at he, Nat.zero_le _, fun e he => by simp [tkOn] at he⟩
    | cons e r =>
      obtain ⟨l, k⟩ := e
      have hk := hp (l, k) (List.mem_cons_self ..)
      have hk : 1 ≤ k ∧ k ≤ 5 := hk
      refine ⟨fun j => ?_, ?_, fun j => by have : out j ≤ n := ho j; show out j ≤ n + 1; omega, fun e he => ?_, ?_, fun e he => ?_⟩
      · have hj : out j = cnt j + ((if l = j ∧ 2 ≤ k then 1 else 0) + pendL r j) := hb j
        show out j = (match ((l, k) :: r : List (Nat × Nat)) with | (l, 2) :: _ => bump cnt l | _ => cnt) j + pendL (if k = 1 then r else (l, k - 1) :: r) j
        by_cases k1 : k = 1
        · subst k1
          rw [if_pos rfl]
          rw [if_neg (fun h => absurd h.2 (by decide))] at hj
          show out j = cnt j + pendL r j
          omega
        · rw [if_neg k1]
          show _ = _ + ((if l = j ∧ 2 ≤ k - 1 then 1 else 0) + pendL r j)
          by_cases k2 : k = 2
          · subst k2
            rw [if_neg (fun h => absurd h.2 (by decide))]
            show out j = bump cnt l j + _
            unfold bump
            by_cases e : j = l
            · rw [if_pos e]; rw [if_pos ⟨e.symm, by decide⟩] at hj; omega
            · rw [if_neg e]; rw [if_neg (fun h => e h.1.symm)] at hj; omega
          · have e3 : (match ((l, k) :: r : List (Nat × Nat)) with | (l, 2) :: _ => bump cnt l | _ => cnt) = cnt := by
              split
              · rename_i heq; cases heq; omega
              · rfl
            rw [e3, hj]
            by_cases e : l = j
            · rw [if_pos ⟨e, by omega⟩, if_pos ⟨e, by omega⟩]
            · rw [if_neg (fun h => e h.1), if_neg (fun h => e h.1)]
      · show (if ((l, k) :: r : List (Nat × Nat)) = [] then c + 1 else c) ≤ n + 1
        have : c ≤ n := hc
        split <;> omega
      · have he : e ∈ (if k = 1 then r else (l, k - 1) :: r) := he
        by_cases k1 : k = 1
        · rw [if_pos k1] at he; exact hp e (List.mem_cons_of_mem _ he)
        · rw [if_neg k1] at he
          rcases List.mem_cons.1 he with rfl | he
          · show 1 ≤ k - 1 ∧ k - 1 ≤ 5; omega
          · exact hp e (List.mem_cons_of_mem _ he)
      · have hln : r.length + 1 ≤ n := hln
        show (if k = 1 then r else (l, k - 1) :: r).length ≤ n + 1
        split
        · omega
        · show r.length + 1 ≤ n + 1; omega
      · have he : e ∈ (if k = 1 then r else (l, k - 1) :: r) := he
        by_cases k1 : k = 1
        · rw [if_pos k1] at he; exact hlv e (List.mem_cons_of_mem _ he)
        · rw [if_neg k1] at he
          rcases List.mem_cons.1 he with rfl | he
          · exact hlv (l, k) (List.mem_cons_self ..)
          · exact hlv e (List.mem_cons_of_mem _ he)
theorem TkOk.mask {pil : Int} {n : Nat} {s : Tk} (h : TkOk pil n s) (hp : 0 ≤ pil ∧ pil ≤ 15) : 0 ≤ tkMask pil s.st ∧ tkMask pil s.st ≤ 15 := by
  obtain ⟨c, st, cnt, out⟩ := s
  cases st with
  | nil => exact hp
  | cons e r =>
    obtain ⟨l, k⟩ := e
    have := h.lev (l, k) (List.mem_cons_self ..)
    have : l < 16 := this
    exact ⟨by show (0 : Int) ≤ l; omega, by show (l : Int) ≤ 15; omega⟩
theorem tk_step {d : List Int} (hd : Mem9 d) {pil : Int} (h0 : 0 ≤ pil ∧ pil < 16) {s : Tk} {m : Mx} (h : TkM d pil s.c s.st s.cnt m) (hc : s.c < 128) (hn : ∀ j, s.cnt j < 4294967295) (v : Nat) : TkM d pil (s.step pil v).c (s.step pil v).st (s.step pil v).cnt (stepM m v) := by
  unfold Tk.step
  by_cases ht : tkTake pil s.st v
  · rw [if_pos ht]; exact tk_irq h h0.1 ht
  · rw [if_neg ht]
    obtain ⟨c, st, cnt, out⟩ := s
    have ht : ¬ (v < 16 ∧ tkMask pil st < (v : Int)) := ht
    cases st with
    | nil => exact tk_main hd h h0.1 hc ht
    | cons e r =>
      obtain ⟨l, k⟩ := e
      obtain ⟨-, hk, -⟩ := h.saved
      have : k = 1 ∨ k = 2 ∨ k = 3 ∨ k = 4 ∨ k = 5 := by omega
      rcases this with rfl | rfl | rfl | rfl | rfl
      · exact tk_rett hd h h0 ht
      · exact tk_st hd h h0.1 (hn l) ht
      · exact tk_add hd h h0.1 (hn l) ht
      · exact tk_ld hd h h0.1 ht
      · exact tk_jump hd h h0.1 ht
def leftL : List (Nat × Nat) → Nat
  | [] => 0
  | (_, k) :: r => k + leftL r
theorem tk_len {tpc tpsr : List Int} {pil : Int} {c : Nat} (h0 : 0 ≤ pil) : ∀ {st : List (Nat × Nat)} {l k : Nat}, TkS tpc tpsr pil c ((l, k) :: st) → st.length < l ∧ leftL ((l, k) :: st) ≤ 5 * l
  | [], l, k, h => by
    obtain ⟨h1, h2, -⟩ := h
    exact ⟨by show 0 < l; omega, by show k + 0 ≤ 5 * l; omega⟩
  | (l2, k2) :: r, l, k, h => by
    obtain ⟨h1, h2, h3, h4, h5, h6⟩ := h
    have h3 : (l2 : Int) < l := h3
    obtain ⟨i1, i2⟩ := tk_len h0 h6
    refine ⟨by show r.length + 1 < l; omega, ?_⟩
    show k + leftL ((l2, k2) :: r) ≤ 5 * l
    omega
theorem tk_left {tpc tpsr : List Int} {pil : Int} {c : Nat} (h0 : 0 ≤ pil) {st : List (Nat × Nat)} (h : TkS tpc tpsr pil c st) : leftL st ≤ 75 := by
  cases st with
  | nil => exact Nat.zero_le _
  | cons e r =>
    obtain ⟨l, k⟩ := e
    have h1 := h.1
    have := (tk_len h0 h).2
    omega
theorem tk_drain {pil : Int} {n : Nat} {s : Tk} (h : TkOk pil n s) (h0 : 0 ≤ tkMask pil s.st) (hs : s.st ≠ []) : leftL (s.step pil 0).st + 1 = leftL s.st ∧ (s.step pil 0).c = s.c ∧ (s.step pil 0).out = s.out := by
  unfold Tk.step
  rw [if_neg (show ¬ tkTake pil s.st 0 from fun hh => by have := hh.2; omega)]
  obtain ⟨c, st, cnt, out⟩ := s
  cases st with
  | nil => exact absurd rfl hs
  | cons e r =>
    obtain ⟨l, k⟩ := e
    have hk := h.pos (l, k) (List.mem_cons_self ..)
    have hk : 1 ≤ k ∧ k ≤ 5 := hk
    refine ⟨?_, (show (if ((l, k) :: r : List (Nat × Nat)) = [] then c + 1 else c) = c from if_neg (fun h => by cases h)), rfl⟩
    show leftL (if k = 1 then r else (l, k - 1) :: r) + 1 = k + leftL r
    by_cases k1 : k = 1
    · rw [if_pos k1, k1]; omega
    · rw [if_neg k1]; show k - 1 + leftL r + 1 = _; omega
theorem tk_done {pil : Int} {n : Nat} {s : Tk} (h : TkOk pil n s) (hs : s.st = []) (j : Nat) : s.out j = s.cnt j := by
  have := h.bal j
  rw [hs] at this
  exact this
theorem tk_alone {pil : Int} (h0 : 0 ≤ pil) (j : Nat) : Tk.step pil ⟨j, [], fun _ => 0, fun _ => 0⟩ 0 = ⟨j + 1, [], fun _ => 0, fun _ => 0⟩ := by
  unfold Tk.step
  rw [if_neg (show ¬ tkTake pil [] 0 from fun hh => by have h2 : pil < ((0 : Nat) : Int) := hh.2; omega)]
  rfl
theorem tk_words {d a b : List Int} (ha : a.length = 2048) (hb : b.length = 2048) (fa : ∀ i, 64 ≤ i → a.getD i 0 = d.getD i 0) (fb : ∀ i, 64 ≤ i → b.getD i 0 = d.getD i 0) (za : ∀ l, l < 16 → loadS a (4 * l) 4 = 0) (zb : ∀ l, l < 16 → loadS b (4 * l) 4 = 0) : wordsS a 0 512 = wordsS b 0 512 := by
  unfold wordsS
  refine List.map_congr_left fun i hi => ?_
  rw [Nat.zero_add]
  by_cases h : i < 16
  · rw [za i h, zb i h]
  · unfold loadS
    rw [if_pos rfl, if_pos rfl, fa _ (by omega), fa _ (by omega), fa _ (by omega), fa _ (by omega), fb _ (by omega), fb _ (by omega), fb _ (by omega), fb _ (by omega)]
end Go.Proofs.YtajholbcpmjhiaaGreatDoor
/- append(own, s...) at a step of a region that draws its order, where s may be nil; a box that may be made at any time meanwhile. No function of the program is walked here. -/
namespace Go.Proofs.YtajholbcpmjhiaaGreatDoor
open Go Go.RowKit
theorem step_append_plus (P : Program) {w : World} {ops : Array Oper} {o : Oper} {a : Act} {K : Act → World → Prop} {Q : Exit → Act → World → Prop} {E : Prop} (hgd : o.guard = none) (s x : Operand) (t : TypeId)
    (ho : o.op = .call { callee := .builtin .append, args := #[s, x], argTypes := #[t, t] })
    (e : TypeId) (i : TypeInfo) (z : Value) (bytes : Nat) (ht : P.underlying t = some (.slice e)) (hi : P.info? e = some i) (hz : i.zero = some z)
    (hsize : i.size = 1) (hby : i.bytes = bytes) (hzs : z.cells.size = 1)
    (g0 n c0 : Nat) (xs : List Value) (hs : a.eval s = .slice (some ⟨g0, 0, none⟩) n c0) (hown : w.ownsRow 0 e 1 (.slice (some ⟨g0, 0, none⟩) n c0) n xs)
    (pp : Option Addr) (m c : Nat) (news : List Value) (hx : a.eval x = .slice pp m c) (hl : news.length = m * 1) (hnil : pp = none → m = 0 ∧ c = 0) (hnews : ∀ ad, pp = some ad → ∀ (j : Nat) u, news[j]? = some u → w.cell? (ad.add j) = some u) (h1 : ∀ u ∈ news, u.oneCell' = true)
    (h63 : n + m ≤ maxLen) (hbytes : (n + m) * bytes ≤ 140737488355328) (r : Nat) (hr : n + m = r)
    (h : ∀ g cap w', w'.ownsRow 0 e 1 (.slice (some ⟨g, 0, none⟩) r cap) r (xs ++ news) → w.grownBy w' (some g0) → (g = g0 ∨ w.heap.size ≤ g) → K (a.put o.dst (.slice (some ⟨g, 0, none⟩) r cap)) w') :
    if Region.wanted o (yielded ops a.tmps) = true then Oper.wp P o a w K Q else E := by
  subst hr
  cases pp with
  | none =>
    obtain ⟨rfl, rfl⟩ := hnil rfl
    obtain rfl : news = [] := List.eq_nil_of_length_eq_zero (by omega)
    have h' := h g0 c0 w (by rw [Nat.add_zero, List.append_nil]; exact hown) (World.grownBy.refl w _) (.inl rfl)
    rw [Nat.add_zero] at h'
    exact step_append_none (P := P) _ hgd s x t ho 0 e i 1 ht hi _ n xs hs hown hx h'
  | some ad =>
    have hw : Region.wanted o (yielded ops a.tmps) = true := by simp [Region.wanted, hgd]
    rw [if_pos hw]
    obtain ⟨v', w', hrun, r1, r2, r3⟩ := run_append_place (P := P) w t o.type e i z bytes ht hi hz hsize hby hzs _ n xs hown ad m c news hl (hnews ad rfl) h1 h63 hbytes
    have hr2 : w.grownBy w' (some g0) := r2
    rcases r1.2 with ⟨rfl, hn⟩ | ⟨g, cap, cur, rfl, _⟩
    · exfalso
      obtain ⟨v2, w2, hrun2, _, _, h4⟩ := run_append_own (P := P) w 0 t o.type e i z 1 bytes ht hi hz hsize hby hzs (by decide) _ n xs hown ad m c news hl (hnews ad rfl) h1 h63 hbytes (Nat.zero_le _)
      rw [hrun] at hrun2
      cases hrun2
      exact absurd (h4.1 rfl).1 (by simp)
    · unfold Oper.wp execOp
      simp only [ho, resolve, invoke, builtin, Sem.run_bind, Sem.run_pure, Result.andThen_ok, List.map_toArray, List.map_cons, List.map_nil, hs, hx, hrun]
      refine h g cap w' r1 hr2 ?_
      rcases r3 with h | h
      · exact .inl (by simpa [Value.ownBlock] using h)
      · exact .inr (h g rfl)
section
end
end Go.Proofs.YtajholbcpmjhiaaGreatDoor
/- append onto a slice of one's own that is empty, of a row that may be nil. No function of the program is walked here. -/
namespace Go.Proofs.YtajholbcpmjhiaaGreatDoor
open Go.RowKit
theorem step_app_copy (P : Program) {w : World} {ops : Array Oper} {o : Oper} {a : Act} {K : Act → World → Prop} {Q : Exit → Act → World → Prop} {E : Prop} (hgd : o.guard = none) (s x : Operand) (t : TypeId)
    (ho : o.op = .call { callee := .builtin .append, args := #[s, x], argTypes := #[t, t] })
    (base : Nat) (e : TypeId) (i : TypeInfo) (z : Value) (size bytes : Nat) (ht : P.underlying t = some (.slice e)) (hi : P.info? e = some i) (hz : i.zero = some z)
    (hsize : i.size = size) (hby : i.bytes = bytes) (hzs : z.cells.size = size) (hsz : 0 < size)
    (g0 c0 : Nat) (hs : a.eval s = .slice (some ⟨g0, 0, none⟩) 0 c0) (hown : w.ownsRow base e size (.slice (some ⟨g0, 0, none⟩) 0 c0) 0 [])
    (pp : Option Addr) (m c : Nat) (news : List Value) (hx : a.eval x = .slice pp m c) (hl : news.length = m * size) (hnil : pp = none → m = 0 ∧ c = 0) (hnews : ∀ ad, pp = some ad → ∀ (j : Nat) u, news[j]? = some u → w.cell? (ad.add j) = some u) (h1 : ∀ u ∈ news, u.oneCell' = true)
    (h63 : m ≤ maxLen) (hbytes : m * bytes ≤ 140737488355328) (hbase : base ≤ w.heap.size) (hg0 : base ≤ g0)
    (h : ∀ g cap w', w'.ownsRow base e size (.slice (some ⟨g, 0, none⟩) m cap) m news → Below base w w' → K (a.put o.dst (.slice (some ⟨g, 0, none⟩) m cap)) w') :
    if Region.wanted o (yielded ops a.tmps) = true then Oper.wp P o a w K Q else E := by
  cases pp with
  | none =>
    obtain ⟨rfl, rfl⟩ := hnil rfl
    obtain rfl : news = [] := List.eq_nil_of_length_eq_zero (by omega)
    exact step_append_none (P := P) _ hgd s x t ho base e i size ht hi _ 0 [] hs hown hx (h g0 c0 w hown (Below.refl _ _))
  | some ad =>
    refine step_append_some (P := P) _ hgd s x t ho base e i z size bytes ht hi hz hsize hby hzs hsz g0 0 c0 [] hs hown ad m c news hx hl (hnews ad rfl) h1 (by omega) (by rw [Nat.zero_add]; exact hbytes) hbase ?_
    intro g cap w' hw' hg
    rw [Nat.zero_add, List.nil_append] at hw'
    rw [Nat.zero_add]
    exact h g cap w' hw' ((Below.refl _ _).grown hg hbase (fun k hk => by cases hk; exact hg0))
theorem wpList_app_copy (P : Program) {w : World} {ops : Array Oper} {rest : List Oper} {o : Oper} {a : Act} {Q : Exit → Act → World → Prop} (hgd : o.guard = none) (s x : Operand) (t : TypeId)
    (ho : o.op = .call { callee := .builtin .append, args := #[s, x], argTypes := #[t, t] })
    (base : Nat) (e : TypeId) (i : TypeInfo) (z : Value) (size bytes : Nat) (ht : P.underlying t = some (.slice e)) (hi : P.info? e = some i) (hz : i.zero = some z)
    (hsize : i.size = size) (hby : i.bytes = bytes) (hzs : z.cells.size = size) (hsz : 0 < size)
    (g0 c0 : Nat) (hs : a.eval s = .slice (some ⟨g0, 0, none⟩) 0 c0) (hown : w.ownsRow base e size (.slice (some ⟨g0, 0, none⟩) 0 c0) 0 [])
    (pp : Option Addr) (m c : Nat) (news : List Value) (hx : a.eval x = .slice pp m c) (hl : news.length = m * size) (hnil : pp = none → m = 0 ∧ c = 0) (hnews : ∀ ad, pp = some ad → ∀ (j : Nat) u, news[j]? = some u → w.cell? (ad.add j) = some u) (h1 : ∀ u ∈ news, u.oneCell' = true)
    (h63 : m ≤ maxLen) (hbytes : m * bytes ≤ 140737488355328) (hbase : base ≤ w.heap.size) (hg0 : base ≤ g0)
    (h : ∀ g cap w', w'.ownsRow base e size (.slice (some ⟨g, 0, none⟩) m cap) m news → Below base w w' → wpList P ops Q rest (a.put o.dst (.slice (some ⟨g, 0, none⟩) m cap)) w') :
    wpList P ops Q (o :: rest) a w := by
  refine wpList_plain hgd fun K hK => ?_
  have h' := step_app_copy P (Q := Q) (E := False) (K := K) (ops := ops) hgd s x t ho base e i z size bytes ht hi hz hsize hby hzs hsz g0 c0 hs hown pp m c news hx hl hnil hnews h1 h63 hbytes hbase hg0 (fun g cap w' e1 e2 => hK _ _ (h g cap w' e1 e2))
  rwa [if_pos (by simp [Region.wanted, hgd])] at h'
end Go.Proofs.YtajholbcpmjhiaaGreatDoor
/- How an argument of type api.Psr is read; the table of math/bits. -/
namespace Go.Proofs.YtajholbcpmjhiaaGreatDoor
open Go.RowKit Go.ChangeShapes Go.WideShapes Go.ChangeAt
theorem bru_of {W : World} (h : ∀ i (hi : i < ([0, 1, 28, 2, 29, 14, 24, 3, 30, 22, 20, 15, 25, 17, 4, 8, 31, 27, 13, 23, 21, 19, 16, 7, 26, 12, 18, 6, 11, 5, 10, 9] : List Int).length), W.cell? ⟨1, i, none⟩ = some (.int .u8 (([0, 1, 28, 2, 29, 14, 24, 3, 30, 22, 20, 15, 25, 17, 4, 8, 31, 27, 13, 23, 21, 19, 16, 7, 26, 12, 18, 6, 11, 5, 10, 9] : List Int).getD i 0))) : Bru W := fun i hi => h i (by simpa using hi)
end Go.Proofs.YtajholbcpmjhiaaGreatDoor
/- How an argument of type api.Inst is read; the table of what operations have. -/
namespace Go.Proofs.YtajholbcpmjhiaaGreatDoor
open Go.RowKit Go.ChangeShapes Go.WideShapes Go.ChangeAt
set_option maxRecDepth 100000 in
theorem tab_of {W : World} (h : ∀ i (hi : i < ([128, 7, 7, 7, 7, 7, 7, 7, 7, 7, 7, 7, 7, 7, 7, 25, 6, 25, 24, 7, 7, 7, 7, 7, 7, 7, 1, 6, 1, 6, 9, 10, 0, 8, 1, 2, 2, 8] : List Int).length), W.cell? ⟨0, i, none⟩ = some (.int .u8 (([128, 7, 7, 7, 7, 7, 7, 7, 7, 7, 7, 7, 7, 7, 7, 25, 6, 25, 24, 7, 7, 7, 7, 7, 7, 7, 1, 6, 1, 6, 9, 10, 0, 8, 1, 2, 2, 8] : List Int).getD i 0))) : Tab W := by
  intro i hi
  have hall : ∀ j : Fin 38, ([128, 7, 7, 7, 7, 7, 7, 7, 7, 7, 7, 7, 7, 7, 7, 25, 6, 25, 24, 7, 7, 7, 7, 7, 7, 7, 1, 6, 1, 6, 9, 10, 0, 8, 1, 2, 2, 8] : List Int).getD j.val 0 = hasK (kindS (j.val : Int)) := by decide
  have h1 := h i (by simpa using hi)
  rw [h1]
  exact congrArg (fun n => some (Value.int .u8 n)) (hall ⟨i, hi⟩)
end Go.Proofs.YtajholbcpmjhiaaGreatDoor
/- How an argument of type muntinlaw06.Start is read. -/
namespace Go.Proofs.YtajholbcpmjhiaaGreatDoor
open Go.RowKit Go.ChangeShapes Go.WideShapes Go.ChangeAt
theorem mlist_of {α : Type} (P : Nat → α → Prop) : ∀ n, (∀ i, i < n → ∃ y, P i y) → ∃ l : List α, l.length = n ∧ ∀ k y, l[k]? = some y → P k y := by
  intro n
  induction n with
  | zero => intro _; exact ⟨[], rfl, fun k y h => by simp at h⟩
  | succ n ih =>
    intro h
    obtain ⟨l, hl, hp⟩ := ih (fun i hi => h i (by omega))
    obtain ⟨y, hy⟩ := h n (by omega)
    refine ⟨l ++ [y], by simp [hl], fun k z hz => ?_⟩
    by_cases hk : k < l.length
    · rw [List.getElem?_append_left hk] at hz; exact hp k z hz
    · rw [List.getElem?_append_right (by omega)] at hz
      have : k - l.length = 0 := by
        rcases Nat.eq_zero_or_pos (k - l.length) with e | e
        · exact e
        · rw [List.getElem?_eq_none (by simp; omega)] at hz; cases hz
      rw [this] at hz
      cases hz
      obtain rfl : k = n := by omega
      exact hy
theorem maddr_add (b o n : Nat) : (⟨b, o, none⟩ : Addr).add n = ⟨b, o + n, none⟩ := by unfold Addr.add; split <;> simp [*]
theorem mcells_each {w : World} {base : Nat} {a : Addr} {n : Nat} {cs : List Value} (h : w.cells? base a n = some cs) : cs.length = n ∧ ∀ j u, cs[j]? = some u → w.cell? (a.add j) = some u := by
  obtain ⟨_, h1, h2⟩ := World.cells?_some h
  refine ⟨h1, fun j u hu => ?_⟩
  have hj : j < n := by
    rcases Nat.lt_or_ge j n with h3 | h3
    · exact h3
    · rw [List.getElem?_eq_none (by omega)] at hu; cases hu
  have := h2 j hj
  rw [this]; exact hu
section
end
end Go.Proofs.YtajholbcpmjhiaaGreatDoor
/- How an argument of type []uint8 is read. -/
namespace Go.Proofs.YtajholbcpmjhiaaGreatDoor
open Go.RowKit Go.ChangeShapes Go.WideShapes Go.ChangeAt
def LevelsIn (w : World) (v : Value) (l : List Int) : Prop :=
  l.length ≤ maxLen ∧ (∀ x ∈ l, 0 ≤ x ∧ x < 256) ∧ ∃ p c b o, v = .slice p l.length c ∧ (0 < l.length → p = some ⟨b, o, none⟩) ∧ ∀ k x, l[k]? = some x → w.cell? ⟨b, o + k, none⟩ = some (.int .u8 x)
theorem LevelsIn.keepb {w w' : World} {v : Value} {l : List Int} (h : LevelsIn w v l) (hb : Below w.heap.size w w') : LevelsIn w' v l := by
  obtain ⟨h1, h2, p, c, b, o, h3, h4, h5⟩ := h
  exact ⟨h1, h2, p, c, b, o, h3, h4, fun k x hx => (hb.cell (p := ⟨b, o + k, none⟩) (World.block_lt_of_cell? _ _ (h5 k x hx))).trans (h5 k x hx)⟩
theorem trod_levels {H : Type} {enc : TypeId × Value → H} {w : World} {base : Nat} {spare : Nat → Bool} {held : Bool} {fuel : Nat} {x : DataW H × List MemPlace} {cs : List Value} (h : DataW.trod enc Tryz.prog w base spare held fuel 56 cs = some x) : ∃ v l, cs = [v] ∧ LevelsIn w v l := by
  rcases Go.Deep.open_slice Tryz.underlying56 h with ⟨rfl, _⟩ | ⟨a, len, cap, m, q, D, Pl, rfl, _, hl, hm, hmm, hx, hel⟩
  · exact ⟨_, [], rfl, by simp, fun x hx => by simp at hx, none, 0, 0, 0, rfl, fun h => by simp at h, fun k y h => by simp at h⟩
  · have hlm : len ≤ m := by rw [hmm]; split <;> omega
    have each : ∀ i, i < len → ∃ y : Int, (0 ≤ y ∧ y < 256) ∧ w.cell? (a.add i) = some (.int .u8 y) := by
      intro i hi
      obtain ⟨cs', h1, h2⟩ := hel i (by omega)
      obtain ⟨y, e, _, wf⟩ := DataW.trod_int Tryz.underlying5 h2
      subst e
      have hb := bounds_u8 wf
      rw [show Tryz.prog.cellsOf 5 = 1 from by kernel_rfl] at h1
      have := (mcells_each h1).2 0 _ rfl
      refine ⟨y, by omega, ?_⟩
      rw [Nat.mul_one] at this
      have e2 : (a.add i).add 0 = a.add i := by simp [Addr.add]
      rw [e2] at this
      exact this
    obtain ⟨l, hll, hlp⟩ := mlist_of _ len each
    subst hll
    refine ⟨_, l, rfl, by omega, fun x hx => ?_, some a, cap, ?_⟩
    · obtain ⟨k, hk⟩ := List.getElem?_of_mem hx
      exact (hlp k x hk).1
    by_cases h0 : 0 < l.length
    · obtain ⟨b, o, sp⟩ := a
      have hsp2 : sp = none := by
        have := World.cell?_spot (hlp 0 l[0] (List.getElem?_eq_getElem h0)).2
        simpa [Addr.add] using this
      subst hsp2
      refine ⟨b, o, rfl, fun _ => rfl, fun k y hy => ?_⟩
      have hc := (hlp k y hy).2
      rw [maddr_add] at hc
      exact hc
    · exact ⟨0, 0, rfl, fun h => absurd h h0, fun k y hy => by have h1 : l = [] := List.eq_nil_of_length_eq_zero (by omega); rw [h1] at hy; simp at hy⟩
set_option maxRecDepth 100000 in
theorem open_levels {H : Type} {enc : TypeId × Value → H} {W : World} {base b : Nat} {spare : Nat → Bool} {held : Bool} {r : Reach} {v : Value} {d : DataW H} {p : List MemPlace} (hv : Value.okWide Tryz.prog W r b 56 v) (h : DataW.Trod enc Tryz.prog W base spare held 56 v d p) :
    ∃ l, LevelsIn W v l := by
  obtain ⟨a, len, cap, rfl⟩ := okWide_slice Tryz.underlying56 hv
  obtain ⟨m, hm⟩ := h
  obtain ⟨v, l, e, r⟩ := trod_levels (by simpa [Value.cells] using hm)
  simp only [List.cons.injEq, and_true] at e
  rw [e]
  exact ⟨l, r⟩
end Go.Proofs.YtajholbcpmjhiaaGreatDoor
/- Several machines side by side: what one does leaves the others. No function of the program is walked here. -/
namespace Go.Proofs.YtajholbcpmjhiaaGreatDoor
open Go.RowKit
def Apart (G G' : MG) : Prop := ∀ k, G.R k ≠ .none → G'.R k = .none
theorem Apart.symm {G G' : MG} (h : Apart G G') : Apart G' G := fun k hk => by
  by_cases e : G.R k = .none
  · exact e
  · exact absurd (h k e) hk
theorem Apart.fresh {w : World} {G G' : MG} {M : Nat} {m : Mx} (h : MachAt w G M m) (hl : ∀ k, G'.R k ≠ .none → w.heap.size ≤ k) : Apart G G' := fun k hk => by
  by_cases e : G'.R k = .none
  · exact e
  · have h1 := h.lt k hk
    have h2 := hl k e
    omega
end Go.Proofs.YtajholbcpmjhiaaGreatDoor
/- A machine of a law's own: each call in one form; what stays of the others. No new function of the program is walked here. -/
namespace Go.Proofs.YtajholbcpmjhiaaGreatDoor
open Go.RowKit
structure MIs (w0 w : World) (G : MG) (M : Nat) (m : Mx) : Prop where
  at' : MachAt w G M m
  lo : ∀ k, G.R k ≠ .none → w0.heap.size ≤ k
  bel : Below w0.heap.size w0 w
def MKeeps (w w' : World) (G G' : MG) : Prop := Only (fun k => G.R k ≠ .none) w w' ∧ ∀ k, k < w.heap.size → G.R k = .none → G'.R k = .none
def MTo (w0 w w' : World) (G : MG) (M : Nat) (m' : Mx) : Prop := ∃ G', MIs w0 w' G' M m' ∧ MKeeps w w' G G'
section
variable {w0 w w' : World} {G G' G2 : MG} {M M2 : Nat} {m m' m2 : Mx}
theorem MIs.keepb (h : MIs w0 w G M m) (hb : Below w.heap.size w w') : MIs w0 w' G M m :=
  ⟨h.at'.keepb hb, h.lo, h.bel.trans (hb.mono h.bel.size)⟩
theorem MKeeps.below (hk : MKeeps w w' G G') (h : MIs w0 w G M m) : Below w0.heap.size w0 w' :=
  h.bel.trans (hk.1.below h.bel.size (fun k hk2 hC => absurd (h.lo k hC) (by omega)))
theorem MIs.other (h : MIs w0 w G2 M2 m2) (h1 : MIs w0 w G M m) (hs : Apart G G2) (hk : MKeeps w w' G G') : MIs w0 w' G2 M2 m2 ∧ Apart G' G2 := by
  refine ⟨⟨h.at'.keep hk.1 (fun k h2 hC => h2 (hs k hC)), h.lo, hk.below h1⟩, fun k hk' => ?_⟩
  · by_cases e : G2.R k = .none
    · exact e
    · have h1 := h.at'.lt k e
      by_cases e2 : G.R k = .none
      · exact absurd (hk.2 k h1 e2) hk'
      · exact hs k e2
def MRow (w : World) (G : MG) (v : Value) (l : List Int) : Prop := Reads32 w v l ∧ ∀ k, v.ownBlock = some k → G.R k = .none ∧ k < w.heap.size
theorem MRow.keep {v : Value} {l : List Int} (h : MRow w G v l) (hk : MKeeps w w' G G') : MRow w' G' v l :=
  ⟨h.1.keepO hk.1 (fun k e hC => hC (h.2 k e).1), fun k e => ⟨hk.2 k (h.2 k e).2 (h.2 k e).1, Nat.lt_of_lt_of_le (h.2 k e).2 hk.1.size⟩⟩
theorem MRow.of_own {v : Value} {l : List Int} (h : MIs w0 w G M m) (ho : w'.ownsRow w.heap.size 24 1 v l.length (u32s l)) : MRow w' G v l :=
  ⟨Reads32.of_own ho, fun k e => ⟨by
    by_cases e2 : G.R k = .none
    · exact e2
    · have h1 := h.at'.lt k e2
      have h2 := (own_range ho k e).1
      omega, (own_range ho k e).2⟩⟩
theorem MGoes.to (h : MIs w0 w G M m) (hg : MGoes w G M m' w') : MTo w0 w w' G M m' := by
  obtain ⟨G', h1, h2, h3⟩ := hg
  have ho : Only (fun k => G.R k ≠ .none) w w' := h2.mono (fun k _ hk => hk.1)
  have hsz := h.bel.size
  refine ⟨G', ⟨h1, fun k hk => ?_, h.bel.trans (ho.below hsz (fun k hk2 hC => absurd (h.lo k hC) (by omega)))⟩, ho, fun k hk e => (h3 k hk).trans e⟩
  by_cases e : k < w.heap.size
  · exact h.lo k (by rw [← h3 k e]; exact hk)
  · omega
theorem MIs.to (h : MIs w0 w G M m) (h1 : MachAt w' G M m') (ho : Only (fun k => G.R k ≠ .none) w w') : MTo w0 w w' G M m' :=
  ⟨G, ⟨h1, h.lo, h.bel.trans (ho.below h.bel.size (fun k hk2 hC => absurd (h.lo k hC) (by omega)))⟩, ho, fun _ _ e => e⟩
end
section
variable (w0 w : World) (ht : Tab w0) (hbr : Bru w0) (G : MG) (M : Nat) (m : Mx) (h : MIs w0 w G M m)
include h
theorem mw_step (ht : Tab w0) (hbr : Bru w0) (level : Int) (hl0 : 0 ≤ level) (hl1 : level < 256) (hol : m.out.length < 4294967296) :
    Calls Tryz.prog 45 #[.pointer (some ⟨M, 0, none⟩), .int .u8 level] w fun e w' => e = .returned (.agg #[.int .u8 (stepM m level).kind, .int .u32 (stepM m level).v]) ∧ MTo w0 w w' G M (stepM m level) :=
  (mstep_any w (ht.keep h.bel) (hbr.keep h.bel) G M m h.at' level hl0 hl1 hol).mono fun e w' he => ⟨he.1, MGoes.to h he.2⟩
theorem mw_store (a x : Int) (ha : 0 ≤ a ∧ a < 4294967296) (hx : 0 ≤ x ∧ x < 4294967296) :
    Calls Tryz.prog 17 #[.pointer (some ⟨G.mB, 0, none⟩), .int .u32 a, .int .i64 4, .int .u32 x] w fun e w' => e = .returned (.int .i64 (spanE m.mem.length a 1 4)) ∧ MTo w0 w w' G M { m with mem := storeV m.mem a 4 x } := by
  refine (store_any w G.mB G.gB m.mem h.at'.mem a 4 ha.1 ha.2 x hx.1 hx.2).mono fun e w' he => ⟨he.1, h.to (h.at'.mem' he.2.2.1 he.2.1 (memM_ok h.at'.ok (storeV_ok h.at'.ok.bytes a 4 x).1 (storeV_ok h.at'.ok.bytes a 4 x).2)) (he.2.2.1.mono fun k _ hk => ?_)⟩
  have e : k = G.gB := hk
  rw [e, h.at'.rg]; simp
theorem mw_setpc (x : Int) (hx : 0 ≤ x ∧ x < 4294967296) :
    Calls Tryz.prog 54 #[.pointer (some ⟨M, 0, none⟩), .int .u32 x] w fun e w' => e = .returned (.int .i64 0) ∧ MTo w0 w w' G M { m with pc := x } := by
  refine (msetpc_any w G M m h.at' x hx).mono fun e w' he => ⟨he.1, h.to he.2.1 (he.2.2.mono fun k _ hk => ?_)⟩
  have e : k = M := hk
  rw [e, h.at'.rM]; simp
theorem mw_setpsr (q : Px) (hq : q.bd) :
    Calls Tryz.prog 55 #[.pointer (some ⟨M, 0, none⟩), q.agg] w fun e w' => e = .returned (.int .i64 (packE q m.nw)) ∧ MTo w0 w w' G M (spsrM m q) := by
  refine (msetpsr_any w G M m h.at' q hq).mono fun e w' he => ⟨he.1, h.to he.2.1 (he.2.2.mono fun k _ hk => ?_)⟩
  have e : k = M := hk
  rw [e, h.at'.rM]; simp
theorem mw_win (wi : Int) :
    Calls Tryz.prog 13 #[.pointer (some ⟨G.F, 0, none⟩), .int .i64 wi] w fun e w' => ∃ v, e = .returned (.tuple #[v, .int .i64 (regE m.f wi 0 0)]) ∧ MRow w' G v (winV m.f wi) ∧ Below w.heap.size w w' := by
  refine (fwin_any w G.F G.Wb G.wc m.f h.at'.file wi).mono fun e w' he => ?_
  obtain ⟨v, h1, h2, h3⟩ := he
  exact ⟨v, h1, MRow.of_own h h2, h3⟩
end
theorem mw_new (nw size : Nat) (w0 w : World) (hb : Below w0.heap.size w0 w) (h2 : 2 ≤ nw) (h32 : nw ≤ 32) (hs : size ≤ 4194304) (h4 : size % 4 = 0) :
    Calls Tryz.prog 50 #[.int .i64 nw, .int .i64 size] w fun e w' => ∃ M G, e = .returned (.tuple #[.pointer (some ⟨M, 0, none⟩), .int .i64 0]) ∧ MIs w0 w' G M (newM nw size) ∧ (∀ k, k < w.heap.size → G.R k = .none) ∧ Below w.heap.size w w' := by
  refine (mnew_ok nw size w h2 h32 hs h4).mono fun e w' he => ?_
  obtain ⟨M', G', h1, h2, h3, h4⟩ := he
  refine ⟨M', G', h1, ⟨h2, fun k hk => Nat.le_trans hb.size (h3 k hk), hb.trans (h4.mono hb.size)⟩, fun k hk => ?_, h4⟩
  by_cases e : G'.R k = .none
  · exact e
  · have := h3 k e; omega
end Go.Proofs.YtajholbcpmjhiaaGreatDoor
/- A machine of a law's own: Load, Choose, Words in the form of MachUse. No new function of the program is walked here. -/
namespace Go.Proofs.YtajholbcpmjhiaaGreatDoor
open Go.RowKit
section
variable (w0 w : World) (G : MG) (M : Nat) (m : Mx) (h : MIs w0 w G M m)
include h
theorem mw_words (n : Int) (hn : n ≤ 9223372036854775807) :
    Calls Tryz.prog 21 #[.pointer (some ⟨G.mB, 0, none⟩), .int .u32 0, .int .i64 n] w fun e w' => ∃ v l, e = .returned (.tuple #[v, .int .i64 (spanE m.mem.length 0 n 4)]) ∧ l = (if spanE m.mem.length 0 n 4 = 0 then wordsS m.mem 0 n.toNat else []) ∧ MRow w' G v l ∧ Below w.heap.size w w' := by
  refine (words_any w G.mB G.gB m.mem h.at'.mem 0 (by omega) (by omega) n hn).mono fun e w' he => ?_
  obtain ⟨v, l, h1, h2, h3, h4⟩ := he
  exact ⟨v, l, h1, h2, MRow.of_own h h3, h4⟩
end
end Go.Proofs.YtajholbcpmjhiaaGreatDoor
