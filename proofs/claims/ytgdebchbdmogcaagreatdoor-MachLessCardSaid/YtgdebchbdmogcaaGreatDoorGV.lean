/- Several texts in one: AsmStep, AppCopy, Ref3Law, Ref3Place, Ref3Set. -/
import Derived.Test.YtgdebchbdmogcaaGreatDoorGA
import Derived.Test.YtgdebchbdmogcaaGreatDoorGE
import Derived.Test.YtgdebchbdmogcaaGreatDoorGD
import Derived.Laws.AppendOwnNone
import Derived.Deep.RegionHeld3
import Derived.Deep.AppendLies
/- append at a step of a region that draws its order: from nil; onto a slice of one's own that is not nil. No function of the program is walked here. -/
namespace Go.Proofs.YtgdebchbdmogcaaGreatDoor
open Go
set_option linter.unusedVariables false
variable {P : Program} (w : World)
theorem step_append_none {ops : Array Oper} {o : Oper} {a : Act} {K : Act → World → Prop} {Q : Exit → Act → World → Prop} {E : Prop} (hgd : o.guard = none) (s x : Operand) (t : TypeId)
    (ho : o.op = .call { callee := .builtin .append, args := #[s, x], argTypes := #[t, t] })
    (base : Nat) (e : TypeId) (i : TypeInfo) (size : Nat) (ht : P.underlying t = some (.slice e)) (hi : P.info? e = some i)
    (v : Value) (n : Nat) (xs : List Value) (hs : a.eval s = v) (hown : w.ownsRow base e size v n xs) (hx : a.eval x = .slice none 0 0) (h : K (a.put o.dst v) w) :
    if Region.wanted o (yielded ops a.tmps) = true then Oper.wp P o a w K Q else E := by
  have hw : Region.wanted o (yielded ops a.tmps) = true := by simp [Region.wanted, hgd]
  rw [if_pos hw]
  have hrun := run_append_owned_none (P := P) (w := w) base t o.type e i size ht hi v n xs hown
  unfold Oper.wp execOp
  simp only [ho, resolve, invoke, builtin, Sem.run_bind, Sem.run_pure, Result.andThen_ok, List.map_toArray, List.map_cons, List.map_nil, hs, hx, hrun]
  exact h
theorem run_append_some (t ty : TypeId) (base : Nat) (e : TypeId) (i : TypeInfo) (z : Value) (size bytes : Nat) (ht : P.underlying t = some (.slice e)) (hi : P.info? e = some i) (hz : i.zero = some z)
    (hsize : i.size = size) (hby : i.bytes = bytes) (hzs : z.cells.size = size) (hsz : 0 < size)
    (g0 n c0 : Nat) (xs : List Value) (hown : w.ownsRow base e size (.slice (some ⟨g0, 0, none⟩) n c0) n xs)
    (ad : Addr) (m c : Nat) (news : List Value) (hl : news.length = m * size) (hnews : ∀ j u, news[j]? = some u → w.cell? (ad.add j) = some u) (h1 : ∀ u ∈ news, u.oneCell' = true)
    (h63 : n + m ≤ maxLen) (hbytes : (n + m) * bytes ≤ 140737488355328) (hbase : base ≤ w.heap.size) :
    ∃ g cap w', (Builtin.append_ #[t, t] ty #[.slice (some ⟨g0, 0, none⟩) n c0, .slice (some ad) m c]).run P w = .ok (.slice (some ⟨g, 0, none⟩) (n + m) cap) w' ∧
      w'.ownsRow base e size (.slice (some ⟨g, 0, none⟩) (n + m) cap) (n + m) (xs ++ news) ∧ w.grownBy w' (some g0) := by
  obtain ⟨v', w', hr, h2, h3, h4⟩ := run_append_own (P := P) w base t ty e i z size bytes ht hi hz hsize hby hzs hsz _ n xs hown ad m c news hl hnews h1 h63 hbytes hbase
  rcases h2.2 with ⟨rfl, _⟩ | ⟨g, cap, cur, rfl, _⟩
  · exact absurd (h4.1 rfl).1 (by simp)
  · exact ⟨g, cap, w', hr, h2, h3⟩
theorem step_append_some {ops : Array Oper} {o : Oper} {a : Act} {K : Act → World → Prop} {Q : Exit → Act → World → Prop} {E : Prop} (hgd : o.guard = none) (s x : Operand) (t : TypeId)
    (ho : o.op = .call { callee := .builtin .append, args := #[s, x], argTypes := #[t, t] })
    (base : Nat) (e : TypeId) (i : TypeInfo) (z : Value) (size bytes : Nat) (ht : P.underlying t = some (.slice e)) (hi : P.info? e = some i) (hz : i.zero = some z)
    (hsize : i.size = size) (hby : i.bytes = bytes) (hzs : z.cells.size = size) (hsz : 0 < size)
    (g0 n c0 : Nat) (xs : List Value) (hs : a.eval s = .slice (some ⟨g0, 0, none⟩) n c0) (hown : w.ownsRow base e size (.slice (some ⟨g0, 0, none⟩) n c0) n xs)
    (ad : Addr) (m c : Nat) (news : List Value) (hx : a.eval x = .slice (some ad) m c) (hl : news.length = m * size) (hnews : ∀ j u, news[j]? = some u → w.cell? (ad.add j) = some u) (h1 : ∀ u ∈ news, u.oneCell' = true)
    (h63 : n + m ≤ maxLen) (hbytes : (n + m) * bytes ≤ 140737488355328) (hbase : base ≤ w.heap.size)
    (h : ∀ g cap w', w'.ownsRow base e size (.slice (some ⟨g, 0, none⟩) (n + m) cap) (n + m) (xs ++ news) → w.grownBy w' (some g0) → K (a.put o.dst (.slice (some ⟨g, 0, none⟩) (n + m) cap)) w') :
    if Region.wanted o (yielded ops a.tmps) = true then Oper.wp P o a w K Q else E := by
  have hw : Region.wanted o (yielded ops a.tmps) = true := by simp [Region.wanted, hgd]
  rw [if_pos hw]
  obtain ⟨g, cap, w', hrun, h2, h3⟩ := run_append_some (P := P) w t o.type base e i z size bytes ht hi hz hsize hby hzs hsz g0 n c0 xs hown ad m c news hl hnews h1 h63 hbytes hbase
  unfold Oper.wp execOp
  simp only [ho, resolve, invoke, builtin, Sem.run_bind, Sem.run_pure, Result.andThen_ok, List.map_toArray, List.map_cons, List.map_nil, hs, hx, hrun]
  exact h g cap w' h2 h3
end Go.Proofs.YtgdebchbdmogcaaGreatDoor
/- append onto a slice of one's own that is empty, of a row that may be nil. No function of the program is walked here. -/
namespace Go.Proofs.YtgdebchbdmogcaaGreatDoor
open Go.RowKit
set_option linter.unusedVariables false
theorem step_app_copy (P : Program) {w : World} {ops : Array Oper} {o : Oper} {a : Act} {K : Act → World → Prop} {Q : Exit → Act → World → Prop} {E : Prop} (hgd : o.guard = none) (s x : Operand) (t : TypeId)
    (ho : o.op = .call { callee := .builtin .append, args := #[s, x], argTypes := #[t, t] })
    (base : Nat) (e : TypeId) (i : TypeInfo) (z : Value) (size bytes : Nat) (ht : P.underlying t = some (.slice e)) (hi : P.info? e = some i) (hz : i.zero = some z)
    (hsize : i.size = size) (hby : i.bytes = bytes) (hzs : z.cells.size = size) (hsz : 0 < size)
    (g0 c0 : Nat) (hs : a.eval s = .slice (some ⟨g0, 0, none⟩) 0 c0) (hown : w.ownsRow base e size (.slice (some ⟨g0, 0, none⟩) 0 c0) 0 [])
    (pp : Option Addr) (m c : Nat) (news : List Value) (hx : a.eval x = .slice pp m c) (hl : news.length = m * size) (hnil : pp = none → m = 0 ∧ c = 0) (hnews : ∀ ad, pp = some ad → ∀ (j : Nat) u, news[j]? = some u → w.cell? (ad.add j) = some u) (h1 : ∀ u ∈ news, u.oneCell' = true)
    (h63 : m ≤ maxLen) (hbytes : m * bytes ≤ 140737488355328) (hbase : base ≤ w.heap.size) (hg0 : base ≤ g0)
    (h : ∀ g cap w', w'.ownsRow base e size (.slice (some ⟨g, 0, none⟩) m cap) m news → Below base w w' → K (a.put o.dst (.slice (some ⟨g, 0, none⟩) m cap)) w') :
    if Region.wanted o (yielded ops a.tmps) = true then Oper.wp P o a w K Q else E := by
  cases pp with
  | none =>
    obtain ⟨rfl, rfl⟩ := hnil rfl
    obtain rfl : news = [] := List.eq_nil_of_length_eq_zero (by omega)
    exact step_append_none (P := P) _ hgd s x t ho base e i size ht hi _ 0 [] hs hown hx (h g0 c0 w hown (Below.refl _ _))
  | some ad =>
    refine step_append_some (P := P) _ hgd s x t ho base e i z size bytes ht hi hz hsize hby hzs hsz g0 0 c0 [] hs hown ad m c news hx hl (hnews ad rfl) h1 (by omega) (by rw [Nat.zero_add]; exact hbytes) hbase ?_
    intro g cap w' hw' hg
    rw [Nat.zero_add, List.nil_append] at hw'
    rw [Nat.zero_add]
    exact h g cap w' hw' ((Below.refl _ _).grown hg hbase (fun k hk => by cases hk; exact hg0))
theorem wpList_app_copy (P : Program) {w : World} {ops : Array Oper} {rest : List Oper} {o : Oper} {a : Act} {Q : Exit → Act → World → Prop} (hgd : o.guard = none) (s x : Operand) (t : TypeId)
    (ho : o.op = .call { callee := .builtin .append, args := #[s, x], argTypes := #[t, t] })
    (base : Nat) (e : TypeId) (i : TypeInfo) (z : Value) (size bytes : Nat) (ht : P.underlying t = some (.slice e)) (hi : P.info? e = some i) (hz : i.zero = some z)
    (hsize : i.size = size) (hby : i.bytes = bytes) (hzs : z.cells.size = size) (hsz : 0 < size)
    (g0 c0 : Nat) (hs : a.eval s = .slice (some ⟨g0, 0, none⟩) 0 c0) (hown : w.ownsRow base e size (.slice (some ⟨g0, 0, none⟩) 0 c0) 0 [])
    (pp : Option Addr) (m c : Nat) (news : List Value) (hx : a.eval x = .slice pp m c) (hl : news.length = m * size) (hnil : pp = none → m = 0 ∧ c = 0) (hnews : ∀ ad, pp = some ad → ∀ (j : Nat) u, news[j]? = some u → w.cell? (ad.add j) = some u) (h1 : ∀ u ∈ news, u.oneCell' = true)
    (h63 : m ≤ maxLen) (hbytes : m * bytes ≤ 140737488355328) (hbase : base ≤ w.heap.size) (hg0 : base ≤ g0)
    (h : ∀ g cap w', w'.ownsRow base e size (.slice (some ⟨g, 0, none⟩) m cap) m news → Below base w w' → wpList P ops Q rest (a.put o.dst (.slice (some ⟨g, 0, none⟩) m cap)) w') :
    wpList P ops Q (o :: rest) a w := by
  refine wpList_plain hgd fun K hK => ?_
  have h' := step_app_copy P (Q := Q) (E := False) (K := K) (ops := ops) hgd s x t ho base e i z size bytes ht hi hz hsize hby hzs hsz g0 c0 hs hown pp m c news hx hl hnil hnews h1 h63 hbytes hbase hg0 (fun g cap w' e1 e2 => hK _ _ (h g cap w' e1 e2))
  rwa [if_pos (by simp [Region.wanted, hgd])] at h'
end Go.Proofs.YtgdebchbdmogcaaGreatDoor
/- Plain law of the document's file (muntinref03): a list of all that was set. No program in sight. -/
namespace Go.Proofs.YtgdebchbdmogcaaGreatDoor
open Go.RowKit
set_option linter.unusedVariables false
set_option linter.unusedSimpArgs false
/-- What a place was set to. -/
structure Sd where
  k : Int
  o : Int
  a : Int
  w : Int
def atL (L : List Sd) (k o a : Int) : Int := L.foldl (fun acc s => if s.k = k ∧ s.o = o ∧ s.a = a then s.w else acc) 0
theorem atL_snoc (L : List Sd) (s : Sd) (k o a : Int) : atL (L ++ [s]) k o a = if s.k = k ∧ s.o = o ∧ s.a = a then s.w else atL L k o a := by
  unfold atL; rw [List.foldl_append]; rfl
def atF (L : List Sd) (k o a : Int) : Int := if k = 0 ∧ a = 0 then 0 else atL L k o a
/-- The place of a register. -/
def plK (r : Int) : Int := if r < 8 then 0 else if r < 16 then 2 else if r < 24 then 1 else 2
def plO (nw w b r : Int) : Int := if r < 8 then b else if r < 16 then (w + nw - 1) % nw else w
def plA (r : Int) : Int := if r < 8 then r else if r < 16 then r - 8 else if r < 24 then r - 16 else r - 24
/-- What the file has at a place. -/
def cellX (f : Fx) (k o a : Int) : Int :=
  if k = 0 then (if a = 0 then 0 else f.glo.getD (o.toNat * 8 + a.toNat) 0) else if k = 1 then f.win.getD (16 * o.toNat + a.toNat) 0 else f.win.getD (16 * o.toNat + (8 + a.toNat)) 0
def plOk (f : Fx) (k o a : Int) : Prop := (0 ≤ a ∧ a < 8) ∧ 0 ≤ o ∧ ((k = 0 ∧ o < 17) ∨ ((k = 1 ∨ k = 2) ∧ o < f.nw))
/-- A log that says what the file has. -/
def LogOf (L : List Sd) (f : Fx) : Prop := ∀ k o a, plOk f k o a → atF L k o a = cellX f k o a
theorem pl_g {r : Int} (h : r < 8) (nw w b : Int) : plK r = 0 ∧ plO nw w b r = b ∧ plA r = r := by
  unfold plK plO plA; rw [if_pos h, if_pos h, if_pos h]; exact ⟨rfl, rfl, rfl⟩
theorem pl_o {r : Int} (h : 8 ≤ r) (h2 : r < 16) (nw w b : Int) : plK r = 2 ∧ plO nw w b r = (w + nw - 1) % nw ∧ plA r = r - 8 := by
  have h8 : ¬ r < 8 := by omega
  unfold plK plO plA; rw [if_neg h8, if_neg h8, if_neg h8, if_pos h2, if_pos h2, if_pos h2]; exact ⟨rfl, rfl, rfl⟩
theorem pl_l {r : Int} (h : 16 ≤ r) (h2 : r < 24) (nw w b : Int) : plK r = 1 ∧ plO nw w b r = w ∧ plA r = r - 16 := by
  have h8 : ¬ r < 8 := by omega
  have h16 : ¬ r < 16 := by omega
  unfold plK plO plA; rw [if_neg h8, if_neg h8, if_neg h8, if_neg h16, if_neg h16, if_neg h16, if_pos h2, if_pos h2]; exact ⟨rfl, rfl, rfl⟩
theorem pl_i {r : Int} (h : 24 ≤ r) (nw w b : Int) : plK r = 2 ∧ plO nw w b r = w ∧ plA r = r - 24 := by
  have h8 : ¬ r < 8 := by omega
  have h16 : ¬ r < 16 := by omega
  have h24 : ¬ r < 24 := by omega
  unfold plK plO plA; rw [if_neg h8, if_neg h8, if_neg h8, if_neg h16, if_neg h16, if_neg h16, if_neg h24, if_neg h24]; exact ⟨rfl, rfl, rfl⟩
theorem pl_ways (r : Int) : r < 8 ∨ (8 ≤ r ∧ r < 16) ∨ (16 ≤ r ∧ r < 24) ∨ 24 ≤ r := by omega
theorem wrap_before (w n : Nat) (h : 0 < n) : ((w : Int) + (n : Int) - 1) % (n : Int) = (((w + n - 1) % n : Nat) : Int) := by
  rw [show (w : Int) + (n : Int) - 1 = ((w + n - 1 : Nat) : Int) from by omega]; exact (Int.natCast_emod _ _).symm
theorem plOk_of {f : Fx} (h : 2 ≤ f.nw) {w b r : Int} (hr : regOk f w b r) : plOk f (plK r) (plO f.nw w b r) (plA r) := by
  obtain ⟨⟨a1, a2⟩, ⟨a3, a4⟩, a5, a6⟩ := hr
  have hm := Int.emod_lt_of_pos (w + (f.nw : Int) - 1) (show 0 < (f.nw : Int) by omega)
  have hn := Int.emod_nonneg (w + (f.nw : Int) - 1) (show (f.nw : Int) ≠ 0 by omega)
  unfold plOk
  rcases pl_ways r with h1 | ⟨h1, h2⟩ | ⟨h1, h2⟩ | h1
  · obtain ⟨e1, e2, e3⟩ := pl_g h1 f.nw w b; rw [e1, e2, e3]; omega
  · obtain ⟨e1, e2, e3⟩ := pl_o h1 h2 f.nw w b; rw [e1, e2, e3]; omega
  · obtain ⟨e1, e2, e3⟩ := pl_l h1 h2 f.nw w b; rw [e1, e2, e3]; omega
  · obtain ⟨e1, e2, e3⟩ := pl_i h1 f.nw w b; rw [e1, e2, e3]; omega
theorem cellX_get {f : Fx} (h : 2 ≤ f.nw) {w b r : Int} (hr : regOk f w b r) : cellX f (plK r) (plO f.nw w b r) (plA r) = getV f w b r := by
  unfold getV
  rw [if_pos hr]
  obtain ⟨⟨a1, a2⟩, ⟨a3, a4⟩, a5, a6⟩ := hr
  obtain ⟨w, rfl⟩ := Int.eq_ofNat_of_zero_le a1
  obtain ⟨b, rfl⟩ := Int.eq_ofNat_of_zero_le a3
  obtain ⟨r, rfl⟩ := Int.eq_ofNat_of_zero_le a5
  simp only [Int.toNat_natCast]
  rcases pl_ways (r : Int) with h1 | ⟨h1, h2⟩ | ⟨h1, h2⟩ | h1
  · obtain ⟨e1, e2, e3⟩ := pl_g h1 f.nw w b
    rw [e1, e2, e3]
    unfold cellX getF
    rw [if_pos rfl]
    by_cases h0 : r = 0
    · rw [if_pos (by omega), if_pos h0]
    · rw [if_neg (by omega), if_neg h0, if_pos (by omega)]
      simp only [Int.toNat_natCast]
  · obtain ⟨e1, e2, e3⟩ := pl_o h1 h2 f.nw w b
    rw [e1, e2, e3, wrap_before _ _ (by omega)]
    unfold cellX getF
    rw [if_neg (by omega), if_neg (by omega), if_neg (show ¬ r = 0 by omega), if_neg (by omega), if_pos (by omega), Int.toNat_natCast]
    congr 1; omega
  · obtain ⟨e1, e2, e3⟩ := pl_l h1 h2 f.nw w b
    rw [e1, e2, e3]
    unfold cellX getF
    rw [if_neg (by omega), if_pos rfl, if_neg (show ¬ r = 0 by omega), if_neg (by omega), if_neg (by omega), Int.toNat_natCast]
    congr 1; omega
  · obtain ⟨e1, e2, e3⟩ := pl_i h1 f.nw w b
    rw [e1, e2, e3]
    unfold cellX getF
    rw [if_neg (by omega), if_neg (by omega), if_neg (show ¬ r = 0 by omega), if_neg (by omega), if_neg (by omega), Int.toNat_natCast]
    congr 1; omega
theorem LogOf.get {L : List Sd} {f : Fx} (h : LogOf L f) (h2 : 2 ≤ f.nw) {w b r : Int} (hr : regOk f w b r) : atF L (plK r) (plO f.nw w b r) (plA r) = getV f w b r := by
  rw [h _ _ _ (plOk_of h2 hr), cellX_get h2 hr]
theorem LogOf.new (nw : Nat) : LogOf [] (Fx.new nw) := by
  intro k o a hp
  have e : ∀ n i, (List.replicate n (0 : Int)).getD i 0 = 0 := fun n i => by
    rw [List.getD_eq_getElem?_getD, List.getElem?_replicate]; split <;> rfl
  unfold atF atL cellX Fx.new
  simp only [List.foldl_nil, e]
  split <;> split <;> (try split) <;> rfl
theorem getD_set (l : List Int) (i j : Nat) (x : Int) (hi : i < l.length) : (l.set i x).getD j 0 = if i = j then x else l.getD j 0 := by
  rw [List.getD_eq_getElem?_getD, List.getD_eq_getElem?_getD]
  by_cases h : i = j
  · subst h; rw [List.getElem?_set_self hi, if_pos rfl]; rfl
  · rw [List.getElem?_set_ne h, if_neg h]
theorem LogOf.set {L : List Sd} {f : Fx} (h : LogOf L f) (hok : f.ok) {w b r : Int} (hr : regOk f w b r) (x : Int) : LogOf (L ++ [⟨plK r, plO f.nw w b r, plA r, x⟩]) (setV f w b r x) := by
  intro k o a hp
  have h2 := hok.nw2
  have hnw : (setV f w b r x).nw = f.nw := setV_nw _ _ _ _ _
  have hp' : plOk f k o a := by unfold plOk at hp ⊢; rw [hnw] at hp; exact hp
  have h1 := h k o a hp'
  have hq := plOk_of h2 hr
  unfold atF at h1 ⊢
  rw [atL_snoc]
  have hwl := hok.wl
  have hgl := hok.gl
  have hset : setV f w b r x = setF f w.toNat b.toNat r.toNat x := by unfold setV; rw [if_pos hr]
  rw [hset]
  obtain ⟨⟨a1, a2⟩, ⟨a3, a4⟩, a5, a6⟩ := hr
  obtain ⟨w, rfl⟩ := Int.eq_ofNat_of_zero_le a1
  obtain ⟨b, rfl⟩ := Int.eq_ofNat_of_zero_le a3
  obtain ⟨r, rfl⟩ := Int.eq_ofNat_of_zero_le a5
  simp only [Int.toNat_natCast]
  obtain ⟨⟨p1, p2⟩, p3, p4⟩ := hp'
  obtain ⟨a, rfl⟩ := Int.eq_ofNat_of_zero_le p1
  obtain ⟨o, rfl⟩ := Int.eq_ofNat_of_zero_le p3
  unfold cellX at h1 ⊢
  simp only [Int.toNat_natCast] at h1 ⊢
  by_cases h8 : r < 8
  · obtain ⟨eK, eO, eA⟩ := pl_g (r := (r : Int)) (by omega) f.nw w b
    rw [eK, eO, eA]
    by_cases h0 : r = 0
    · have e : setF f w b r x = f := by unfold setF; rw [if_pos h0]
      rw [e, ← h1]
      split
      · rfl
      · rw [if_neg (by omega)]
    · have e : setF f w b r x = { f with glo := f.glo.set (b * 8 + r) x } := by unfold setF; rw [if_neg h0, if_pos h8]
      rw [e]
      simp only
      by_cases hk : k = 0
      · subst hk
        by_cases ha : (a : Int) = 0
        · rw [if_pos ⟨rfl, ha⟩, if_pos rfl, if_pos ha]
        · rw [if_neg (fun h => ha h.2), if_pos rfl, if_neg ha] at h1
          rw [if_neg (fun h => ha h.2), if_pos rfl, if_neg ha, getD_set _ _ _ _ (by omega)]
          by_cases hb : (b : Int) = o ∧ (r : Int) = a
          · rw [if_pos ⟨rfl, hb.1, hb.2⟩, if_pos (by omega)]
          · rw [if_neg (fun h => hb h.2), if_neg (by omega), h1]
      · rw [if_neg (fun h => hk h.1), if_neg hk] at h1
        rw [if_neg (fun h => hk h.1), if_neg hk, if_neg (fun h => hk h.1.symm), h1]
  · have e : ∃ i, setF f w b r x = { f with win := f.win.set i x } ∧ i < 16 * f.nw ∧ (plK (r : Int) = 1 ∧ (i : Int) = 16 * plO (f.nw : Int) (w : Int) (b : Int) (r : Int) + plA (r : Int) ∨ plK (r : Int) = 2 ∧ (i : Int) = 16 * plO (f.nw : Int) (w : Int) (b : Int) (r : Int) + (8 + plA (r : Int))) := by
      unfold setF
      rw [if_neg (by omega), if_neg h8]
      have hml := Nat.mod_lt (w + f.nw - 1) (show 0 < f.nw by omega)
      rcases pl_ways (r : Int) with g1 | ⟨g1, g2⟩ | ⟨g1, g2⟩ | g1
      · omega
      · obtain ⟨e1, e2, e3⟩ := pl_o g1 g2 f.nw w b
        rw [if_pos (by omega), e1, e2, e3, wrap_before _ _ (by omega)]
        exact ⟨_, rfl, by omega, .inr ⟨rfl, by omega⟩⟩
      · obtain ⟨e1, e2, e3⟩ := pl_l g1 g2 f.nw w b
        rw [if_neg (by omega), e1, e2, e3]
        exact ⟨_, rfl, by omega, .inl ⟨rfl, by omega⟩⟩
      · obtain ⟨e1, e2, e3⟩ := pl_i g1 f.nw w b
        rw [if_neg (by omega), e1, e2, e3]
        exact ⟨_, rfl, by omega, .inr ⟨rfl, by omega⟩⟩
    obtain ⟨i, e, hi, hK⟩ := e
    rw [e]
    simp only
    obtain ⟨⟨q1, q2⟩, q3, q4⟩ := hq
    generalize plK (r : Int) = K at *
    generalize plO (f.nw : Int) (w : Int) (b : Int) (r : Int) = O at *
    generalize plA (r : Int) = A at *
    by_cases hk : k = 0
    · subst hk
      rw [if_pos rfl] at h1 ⊢
      rw [← h1]
      split
      · rfl
      · rw [if_neg (by omega)]
    · rw [if_neg (fun h => hk h.1), if_neg hk] at h1
      rw [if_neg (fun h => hk h.1), if_neg hk]
      by_cases hk1 : k = 1
      · rw [if_pos hk1] at h1 ⊢
        rw [getD_set _ _ _ _ (by omega)]
        by_cases hb : K = k ∧ O = o ∧ A = a
        · rw [if_pos hb, if_pos (by omega)]
        · rw [if_neg hb, if_neg (by omega), h1]
      · rw [if_neg hk1] at h1 ⊢
        rw [getD_set _ _ _ _ (by omega)]
        by_cases hb : K = k ∧ O = o ∧ A = a
        · rw [if_pos hb, if_pos (by omega)]
        · rw [if_neg hb, if_neg (by omega), h1]
end Go.Proofs.YtgdebchbdmogcaaGreatDoor
/- The walks of the document's file (muntinref03). -/
namespace Go.Proofs.YtgdebchbdmogcaaGreatDoor
open Go.RowKit Go.Maps
set_option linter.unusedVariables false
set_option linter.unusedSimpArgs false
def sdC (s : Sd) : List Value := [.int .i64 s.k, .int .i64 s.o, .int .i64 s.a, .int .u32 s.w]
/-- A log, as it is read. -/
def LogIn (w : World) (v : Value) (L : List Sd) : Prop :=
  (v = .slice none 0 0 ∧ L = []) ∨ ∃ g cap, v = .slice (some ⟨g, 0, none⟩) L.length cap ∧ g < w.heap.size ∧ ∀ j u, (L.flatMap sdC)[j]? = some u → w.cell? ⟨g, j, none⟩ = some u
theorem LogIn.keep {w w' : World} {v : Value} {L : List Sd} (h : LogIn w v L) (hb : Below w.heap.size w w') : LogIn w' v L := by
  rcases h with h | ⟨g, cap, h1, h2, h3⟩
  · exact .inl h
  · exact .inr ⟨g, cap, h1, Nat.lt_of_lt_of_le h2 hb.size, fun j u hu => (hb.cell (p := ⟨g, j, none⟩) h2).trans (h3 j u hu)⟩
theorem LogIn.shape {w : World} {v : Value} {L : List Sd} (h : LogIn w v L) : ∃ p c, v = .slice p L.length c := by
  rcases h with ⟨h, rfl⟩ | ⟨g, cap, h, _⟩
  · exact ⟨_, _, h⟩
  · exact ⟨_, _, h⟩
abbrev plAgg (f : Fx) (w b r : Int) : Value := .agg #[.int .i64 (if regOk f w b r then plK r else 0), .int .i64 (if regOk f w b r then plO f.nw w b r else 0), .int .i64 (if regOk f w b r then plA r else 0)]
theorem pl_no {f : Fx} {w b r : Int} (h : ¬ regOk f w b r) : Ending.returned (.tuple #[.agg #[.int .i64 0, .int .i64 0, .int .i64 0], .int .i64 2]) = .returned (.tuple #[plAgg f w b r, .int .i64 (regE f w b r)]) := by
  unfold plAgg regE; rw [if_neg h, if_neg h, if_neg h, if_neg h]
theorem pl_yes {f : Fx} {w b r k o a : Int} (h : regOk f w b r) (h2 : plK r = k ∧ plO f.nw w b r = o ∧ plA r = a) : Ending.returned (.tuple #[.agg #[.int .i64 k, .int .i64 o, .int .i64 a], .int .i64 0]) = .returned (.tuple #[plAgg f w b r, .int .i64 (regE f w b r)]) := by
  unfold plAgg regE; rw [if_pos h, if_pos h, if_pos h, if_pos h, h2.1, h2.2.1, h2.2.2]
set_option maxRecDepth 100000 in
set_option maxHeartbeats 4000000 in
theorem rf_place (W : World) (f : Fx) (hok : f.ok) (lv : Value) (hlv : ∃ p n c, lv = .slice p n c) (w b r : Int) :
    Calls Tryz.prog 59 #[.agg #[.int .i64 f.nw, lv], .int .i64 w, .int .i64 b, .int .i64 r] W fun e w' => e = .returned (.tuple #[plAgg f w b r, .int .i64 (regE f w b r)]) ∧ Below W.heap.size W w' := by
  obtain ⟨p, n, c, rfl⟩ := hlv
  have h2 := hok.nw2
  have h32 := hok.nw32
  clear hok
  have hbw : Below W.heap.size W ((W.alloc (.cells #[.int .i64 f.nw, .slice p n c] 35)).alloc (.cells #[.int .i64 0, .int .i64 0, .int .i64 0] 124)) := ((Below.refl _ _).alloc (Nat.le_refl _) _).alloc (by simp) _
  have hB := (ARow.fresh W 35 #[.int .i64 f.nw, .slice p n c]).alloc (.cells #[.int .i64 0, .int .i64 0, .int .i64 0] 124)
  have hR := ARow.fresh (W.alloc (.cells #[.int .i64 f.nw, .slice p n c] 35)) 124 #[.int .i64 0, .int .i64 0, .int .i64 0]
  rw [World.size_alloc] at hR
  have HBW := mhid hbw
  have HR := mhid hR
  have b0 := hB.cell (k := 0) rfl
  have r0 := hR.cell (k := 0) rfl
  have r1 := hR.cell (k := 1) rfl
  have r2 := hR.cell (k := 2) rfl
  have rf0 := hR.frozen 0
  have rf1 := hR.frozen 1
  have rf2 := hR.frozen 2
  have HI := mhid (show ∀ w b r : Int, regOk f w b r ↔ (0 ≤ w ∧ w < f.nw) ∧ (0 ≤ b ∧ b < 17) ∧ 0 ≤ r ∧ r < 32 from fun _ _ _ => Iff.rfl)
  clear hbw hB hR
  have hfin : ∀ (k o a : Int) (W1 W9 : World) (e : Ending), Hid (ARow W1 (W.heap.size + 1) 124 [.int .i64 0, .int .i64 0, .int .i64 0]) → True := fun _ _ _ _ _ _ _ => trivial
  clear hfin
  by_cases x0 : w < 0
  · have HN := mhid (show ¬ regOk f w b r from by rw [HI.out]; omega)
    go_enter Tryz.func59, Tryz.ntmps59
    go_wp2_with fail
    have hR := ARow.fresh (W.alloc (.cells #[.int .i64 f.nw, .slice p n c] 35)) 124 #[.int .i64 (0), .int .i64 (0), .int .i64 (0)]
    rw [World.size_alloc] at hR
    have s0 := hR.cell (k := 0) rfl
    have s1 := hR.cell (k := 1) rfl
    have s2 := hR.cell (k := 2) rfl
    have hb9 : Below W.heap.size W ((W.alloc (.cells #[.int .i64 f.nw, .slice p n c] 35)).alloc (.cells #[.int .i64 (0), .int .i64 (0), .int .i64 (0)] 124)) := ((Below.refl _ _).alloc (Nat.le_refl _) _).alloc (by simp) _
    clear hR r0 r1 r2 rf0 rf1 rf2 b0
    generalize ((W.alloc (.cells #[.int .i64 f.nw, .slice p n c] 35)).alloc (.cells #[.int .i64 (0), .int .i64 (0), .int .i64 (0)] 124)) = W9 at *
    refine bodyPost_ret (by simp [results, Tryz.results59, go_sem, s0, s1, s2]; try rfl) rfl ?_
    exact ⟨pl_no HN.out, hb9⟩
  · skip
    by_cases x1 : w ≥ f.nw
    · have HN := mhid (show ¬ regOk f w b r from by rw [HI.out]; omega)
      go_enter Tryz.func59, Tryz.ntmps59
      go_wp2_with fail
      have hR := ARow.fresh (W.alloc (.cells #[.int .i64 f.nw, .slice p n c] 35)) 124 #[.int .i64 (0), .int .i64 (0), .int .i64 (0)]
      rw [World.size_alloc] at hR
      have s0 := hR.cell (k := 0) rfl
      have s1 := hR.cell (k := 1) rfl
      have s2 := hR.cell (k := 2) rfl
      have hb9 : Below W.heap.size W ((W.alloc (.cells #[.int .i64 f.nw, .slice p n c] 35)).alloc (.cells #[.int .i64 (0), .int .i64 (0), .int .i64 (0)] 124)) := ((Below.refl _ _).alloc (Nat.le_refl _) _).alloc (by simp) _
      clear hR r0 r1 r2 rf0 rf1 rf2 b0
      generalize ((W.alloc (.cells #[.int .i64 f.nw, .slice p n c] 35)).alloc (.cells #[.int .i64 (0), .int .i64 (0), .int .i64 (0)] 124)) = W9 at *
      refine bodyPost_ret (by simp [results, Tryz.results59, go_sem, s0, s1, s2]; try rfl) rfl ?_
      exact ⟨pl_no HN.out, hb9⟩
    · skip
      by_cases x2 : b < 0
      · have HN := mhid (show ¬ regOk f w b r from by rw [HI.out]; omega)
        go_enter Tryz.func59, Tryz.ntmps59
        go_wp2_with fail
        have hR := ARow.fresh (W.alloc (.cells #[.int .i64 f.nw, .slice p n c] 35)) 124 #[.int .i64 (0), .int .i64 (0), .int .i64 (0)]
        rw [World.size_alloc] at hR
        have s0 := hR.cell (k := 0) rfl
        have s1 := hR.cell (k := 1) rfl
        have s2 := hR.cell (k := 2) rfl
        have hb9 : Below W.heap.size W ((W.alloc (.cells #[.int .i64 f.nw, .slice p n c] 35)).alloc (.cells #[.int .i64 (0), .int .i64 (0), .int .i64 (0)] 124)) := ((Below.refl _ _).alloc (Nat.le_refl _) _).alloc (by simp) _
        clear hR r0 r1 r2 rf0 rf1 rf2 b0
        generalize ((W.alloc (.cells #[.int .i64 f.nw, .slice p n c] 35)).alloc (.cells #[.int .i64 (0), .int .i64 (0), .int .i64 (0)] 124)) = W9 at *
        refine bodyPost_ret (by simp [results, Tryz.results59, go_sem, s0, s1, s2]; try rfl) rfl ?_
        exact ⟨pl_no HN.out, hb9⟩
      · skip
        by_cases x3 : b > 16
        · have HN := mhid (show ¬ regOk f w b r from by rw [HI.out]; omega)
          go_enter Tryz.func59, Tryz.ntmps59
          go_wp2_with fail
          have hR := ARow.fresh (W.alloc (.cells #[.int .i64 f.nw, .slice p n c] 35)) 124 #[.int .i64 (0), .int .i64 (0), .int .i64 (0)]
          rw [World.size_alloc] at hR
          have s0 := hR.cell (k := 0) rfl
          have s1 := hR.cell (k := 1) rfl
          have s2 := hR.cell (k := 2) rfl
          have hb9 : Below W.heap.size W ((W.alloc (.cells #[.int .i64 f.nw, .slice p n c] 35)).alloc (.cells #[.int .i64 (0), .int .i64 (0), .int .i64 (0)] 124)) := ((Below.refl _ _).alloc (Nat.le_refl _) _).alloc (by simp) _
          clear hR r0 r1 r2 rf0 rf1 rf2 b0
          generalize ((W.alloc (.cells #[.int .i64 f.nw, .slice p n c] 35)).alloc (.cells #[.int .i64 (0), .int .i64 (0), .int .i64 (0)] 124)) = W9 at *
          refine bodyPost_ret (by simp [results, Tryz.results59, go_sem, s0, s1, s2]; try rfl) rfl ?_
          exact ⟨pl_no HN.out, hb9⟩
        · skip
          by_cases x4 : r < 0
          · have HN := mhid (show ¬ regOk f w b r from by rw [HI.out]; omega)
            go_enter Tryz.func59, Tryz.ntmps59
            go_wp2_with fail
            have hR := ARow.fresh (W.alloc (.cells #[.int .i64 f.nw, .slice p n c] 35)) 124 #[.int .i64 (0), .int .i64 (0), .int .i64 (0)]
            rw [World.size_alloc] at hR
            have s0 := hR.cell (k := 0) rfl
            have s1 := hR.cell (k := 1) rfl
            have s2 := hR.cell (k := 2) rfl
            have hb9 : Below W.heap.size W ((W.alloc (.cells #[.int .i64 f.nw, .slice p n c] 35)).alloc (.cells #[.int .i64 (0), .int .i64 (0), .int .i64 (0)] 124)) := ((Below.refl _ _).alloc (Nat.le_refl _) _).alloc (by simp) _
            clear hR r0 r1 r2 rf0 rf1 rf2 b0
            generalize ((W.alloc (.cells #[.int .i64 f.nw, .slice p n c] 35)).alloc (.cells #[.int .i64 (0), .int .i64 (0), .int .i64 (0)] 124)) = W9 at *
            refine bodyPost_ret (by simp [results, Tryz.results59, go_sem, s0, s1, s2]; try rfl) rfl ?_
            exact ⟨pl_no HN.out, hb9⟩
          · skip
            by_cases x5 : r > 31
            · have HN := mhid (show ¬ regOk f w b r from by rw [HI.out]; omega)
              go_enter Tryz.func59, Tryz.ntmps59
              go_wp2_with fail
              have hR := ARow.fresh (W.alloc (.cells #[.int .i64 f.nw, .slice p n c] 35)) 124 #[.int .i64 (0), .int .i64 (0), .int .i64 (0)]
              rw [World.size_alloc] at hR
              have s0 := hR.cell (k := 0) rfl
              have s1 := hR.cell (k := 1) rfl
              have s2 := hR.cell (k := 2) rfl
              have hb9 : Below W.heap.size W ((W.alloc (.cells #[.int .i64 f.nw, .slice p n c] 35)).alloc (.cells #[.int .i64 (0), .int .i64 (0), .int .i64 (0)] 124)) := ((Below.refl _ _).alloc (Nat.le_refl _) _).alloc (by simp) _
              clear hR r0 r1 r2 rf0 rf1 rf2 b0
              generalize ((W.alloc (.cells #[.int .i64 f.nw, .slice p n c] 35)).alloc (.cells #[.int .i64 (0), .int .i64 (0), .int .i64 (0)] 124)) = W9 at *
              refine bodyPost_ret (by simp [results, Tryz.results59, go_sem, s0, s1, s2]; try rfl) rfl ?_
              exact ⟨pl_no HN.out, hb9⟩
            · skip
              have HY := mhid (show regOk f w b r from by rw [HI.out]; omega)
              by_cases y0 : r < 8
              · have HP := mhid (pl_g y0 f.nw w b)
                go_enter Tryz.func59, Tryz.ntmps59
                go_wp2_with fail
                have hR := ARow.fresh (W.alloc (.cells #[.int .i64 f.nw, .slice p n c] 35)) 124 #[.int .i64 (0), .int .i64 (b), .int .i64 (r)]
                rw [World.size_alloc] at hR
                have s0 := hR.cell (k := 0) rfl
                have s1 := hR.cell (k := 1) rfl
                have s2 := hR.cell (k := 2) rfl
                have hb9 : Below W.heap.size W ((W.alloc (.cells #[.int .i64 f.nw, .slice p n c] 35)).alloc (.cells #[.int .i64 (0), .int .i64 (b), .int .i64 (r)] 124)) := ((Below.refl _ _).alloc (Nat.le_refl _) _).alloc (by simp) _
                clear hR r0 r1 r2 rf0 rf1 rf2 b0
                generalize ((W.alloc (.cells #[.int .i64 f.nw, .slice p n c] 35)).alloc (.cells #[.int .i64 (0), .int .i64 (b), .int .i64 (r)] 124)) = W9 at *
                refine bodyPost_ret (by simp [results, Tryz.results59, go_sem, s0, s1, s2]; try rfl) rfl ?_
                exact ⟨pl_yes HY.out HP.out, hb9⟩
              · by_cases y1 : r < 16
                · have HP := mhid (pl_o (show 8 ≤ r by omega) y1 f.nw w b)
                  have q1 : ((f.nw : Int) == 0) = false := by rw [beq_eq_false_iff_ne]; omega
                  have q2 : (w + (f.nw : Int) - 1).tmod (f.nw : Int) = (w + (f.nw : Int) - 1) % (f.nw : Int) := IntWalk.rem_in _ _ (by omega)
                  have q3 := Int.emod_lt_of_pos (w + (f.nw : Int) - 1) (show 0 < (f.nw : Int) by omega)
                  have q4 := Int.emod_nonneg (w + (f.nw : Int) - 1) (show (f.nw : Int) ≠ 0 by omega)
                  have q5 : ¬ ((f.nw : Int) = 0) := by omega
                  go_enter Tryz.func59, Tryz.ntmps59
                  go_wp2_with fail
                  have hR := ARow.fresh (W.alloc (.cells #[.int .i64 f.nw, .slice p n c] 35)) 124 #[.int .i64 (2), .int .i64 ((w + (f.nw : Int) - 1) % (f.nw : Int)), .int .i64 (r - 8)]
                  rw [World.size_alloc] at hR
                  have s0 := hR.cell (k := 0) rfl
                  have s1 := hR.cell (k := 1) rfl
                  have s2 := hR.cell (k := 2) rfl
                  have hb9 : Below W.heap.size W ((W.alloc (.cells #[.int .i64 f.nw, .slice p n c] 35)).alloc (.cells #[.int .i64 (2), .int .i64 ((w + (f.nw : Int) - 1) % (f.nw : Int)), .int .i64 (r - 8)] 124)) := ((Below.refl _ _).alloc (Nat.le_refl _) _).alloc (by simp) _
                  clear hR r0 r1 r2 rf0 rf1 rf2 b0
                  generalize ((W.alloc (.cells #[.int .i64 f.nw, .slice p n c] 35)).alloc (.cells #[.int .i64 (2), .int .i64 ((w + (f.nw : Int) - 1) % (f.nw : Int)), .int .i64 (r - 8)] 124)) = W9 at *
                  refine bodyPost_ret (by simp [results, Tryz.results59, go_sem, s0, s1, s2]; try rfl) rfl ?_
                  exact ⟨pl_yes HY.out HP.out, hb9⟩
                · by_cases y2 : r < 24
                  · have HP := mhid (pl_l (show 16 ≤ r by omega) y2 f.nw w b)
                    go_enter Tryz.func59, Tryz.ntmps59
                    go_wp2_with fail
                    have hR := ARow.fresh (W.alloc (.cells #[.int .i64 f.nw, .slice p n c] 35)) 124 #[.int .i64 (1), .int .i64 (w), .int .i64 (r - 16)]
                    rw [World.size_alloc] at hR
                    have s0 := hR.cell (k := 0) rfl
                    have s1 := hR.cell (k := 1) rfl
                    have s2 := hR.cell (k := 2) rfl
                    have hb9 : Below W.heap.size W ((W.alloc (.cells #[.int .i64 f.nw, .slice p n c] 35)).alloc (.cells #[.int .i64 (1), .int .i64 (w), .int .i64 (r - 16)] 124)) := ((Below.refl _ _).alloc (Nat.le_refl _) _).alloc (by simp) _
                    clear hR r0 r1 r2 rf0 rf1 rf2 b0
                    generalize ((W.alloc (.cells #[.int .i64 f.nw, .slice p n c] 35)).alloc (.cells #[.int .i64 (1), .int .i64 (w), .int .i64 (r - 16)] 124)) = W9 at *
                    refine bodyPost_ret (by simp [results, Tryz.results59, go_sem, s0, s1, s2]; try rfl) rfl ?_
                    exact ⟨pl_yes HY.out HP.out, hb9⟩
                  · have HP := mhid (pl_i (show 24 ≤ r by omega) f.nw w b)
                    go_enter Tryz.func59, Tryz.ntmps59
                    go_wp2_with fail
                    have hR := ARow.fresh (W.alloc (.cells #[.int .i64 f.nw, .slice p n c] 35)) 124 #[.int .i64 (2), .int .i64 (w), .int .i64 (r - 24)]
                    rw [World.size_alloc] at hR
                    have s0 := hR.cell (k := 0) rfl
                    have s1 := hR.cell (k := 1) rfl
                    have s2 := hR.cell (k := 2) rfl
                    have hb9 : Below W.heap.size W ((W.alloc (.cells #[.int .i64 f.nw, .slice p n c] 35)).alloc (.cells #[.int .i64 (2), .int .i64 (w), .int .i64 (r - 24)] 124)) := ((Below.refl _ _).alloc (Nat.le_refl _) _).alloc (by simp) _
                    clear hR r0 r1 r2 rf0 rf1 rf2 b0
                    generalize ((W.alloc (.cells #[.int .i64 f.nw, .slice p n c] 35)).alloc (.cells #[.int .i64 (2), .int .i64 (w), .int .i64 (r - 24)] 124)) = W9 at *
                    refine bodyPost_ret (by simp [results, Tryz.results59, go_sem, s0, s1, s2]; try rfl) rfl ?_
                    exact ⟨pl_yes HY.out HP.out, hb9⟩
end Go.Proofs.YtgdebchbdmogcaaGreatDoor
/- The walks of the document's file (muntinref03): New, Set. -/
namespace Go.Proofs.YtgdebchbdmogcaaGreatDoor
open Go.RowKit Go.Maps
set_option linter.unusedVariables false
set_option linter.unusedSimpArgs false
/-- A struct of two cells, in a box. -/
structure R2 (w : World) (b : Nat) (lv mv : Value) : Prop where
  c0 : w.cell? ⟨b, 0, none⟩ = some lv
  c1 : w.cell? ⟨b, 1, none⟩ = some mv
  f0 : w.frozen? ⟨b, 0, none⟩ = false
  f1 : w.frozen? ⟨b, 1, none⟩ = false
theorem R2.lt {w : World} {b : Nat} {lv mv : Value} (h : R2 w b lv mv) : b < w.heap.size := World.block_lt_of_cell? _ _ h.c0
theorem R2.new (w : World) (lv mv : Value) (t : TypeId) : R2 (w.alloc (.cells #[lv, mv] t)) w.heap.size lv mv := by
  have h := heap_alloc_new w (.cells #[lv, mv] t)
  exact ⟨by simp only [World.cell?, h]; rfl, by simp only [World.cell?, h]; rfl, by simp only [World.frozen?, h]; rfl, by simp only [World.frozen?, h]; rfl⟩
theorem R2.keepB {w w' : World} {B b : Nat} {lv mv : Value} (h : R2 w b lv mv) (hb : Below B w w') (hl : b < B) : R2 w' b lv mv :=
  ⟨(hb.cell (p := ⟨b, 0, none⟩) hl).trans h.c0, (hb.cell (p := ⟨b, 1, none⟩) hl).trans h.c1, (hb.frozen (p := ⟨b, 0, none⟩) hl).trans h.f0, (hb.frozen (p := ⟨b, 1, none⟩) hl).trans h.f1⟩
theorem R2.al {w : World} {b : Nat} {lv mv : Value} (h : R2 w b lv mv) (o : Obj) : R2 (w.alloc o) b lv mv := h.keepB ((Below.refl _ _).alloc (Nat.le_refl _) _) h.lt
theorem R2.set {w : World} {b : Nat} {x y : Value} (h : R2 w b x y) (u v : Value) : R2 ((w.setCell ⟨b, 0, none⟩ u).setCell ⟨b, 1, none⟩ v) b u v := by
  obtain ⟨c0, c1, f0, f1⟩ := h
  refine ⟨?_, ?_, ?_, ?_⟩
  · exact (World.cell?_setCell_other _ _ _ _ (by simp)).trans (World.cell?_setCell_same _ _ _ c0)
  · exact World.cell?_setCell_same _ _ _ (u := y) ((World.cell?_setCell_other _ _ _ _ (by simp)).trans c1)
  · simpa using f0
  · simpa using f1
/-- Three cells in a box. -/
structure R3 (w : World) (b : Nat) (x y z : Value) : Prop where
  c0 : w.cell? ⟨b, 0, none⟩ = some x
  c1 : w.cell? ⟨b, 1, none⟩ = some y
  c2 : w.cell? ⟨b, 2, none⟩ = some z
theorem R3.new (w : World) (x y z : Value) (t : TypeId) : R3 (w.alloc (.cells #[x, y, z] t)) w.heap.size x y z := by
  have h := heap_alloc_new w (.cells #[x, y, z] t)
  exact ⟨by simp only [World.cell?, h]; rfl, by simp only [World.cell?, h]; rfl, by simp only [World.cell?, h]; rfl⟩
theorem R3.keepB {w w' : World} {B b : Nat} {x y z : Value} (h : R3 w b x y z) (hb : Below B w w') (hl : b < B) : R3 w' b x y z :=
  ⟨(hb.cell (p := ⟨b, 0, none⟩) hl).trans h.c0, (hb.cell (p := ⟨b, 1, none⟩) hl).trans h.c1, (hb.cell (p := ⟨b, 2, none⟩) hl).trans h.c2⟩
theorem infosd : (Tryz.prog.info? 128).map (fun i => (i.zero, i.size, i.bytes)) = some (some (.agg #[.int .i64 0, .int .i64 0, .int .i64 0, .int .u32 0]), 4, 32) := by kernel_rfl
theorem sds_one (L : List Sd) : ∀ u ∈ L.flatMap sdC, u.oneCell' = true := by
  intro u hu
  obtain ⟨e, _, h⟩ := List.mem_flatMap.1 hu
  simp [sdC] at h
  rcases h with rfl | rfl | rfl | rfl <;> simp [Value.oneCell']
theorem sds_len (L : List Sd) : (L.flatMap sdC).length = L.length * 4 := by
  induction L with
  | nil => rfl
  | cons s L ih => rw [List.flatMap_cons, List.length_append, ih]; simp [sdC]; omega
/-- What Set leaves. -/
def RfSets (W : World) (lv : Value) (f : Fx) (L : List Sd) (w b r x : Int) (e : Ending) (w' : World) : Prop :=
  ∃ lv' L', e = .returned (.tuple #[.agg #[.int .i64 f.nw, lv'], .int .i64 (regE f w b r)]) ∧ LogIn w' lv' L' ∧ LogOf L' (setV f w b r x) ∧ L'.length ≤ L.length + 1 ∧ Below W.heap.size W w' ∧ ∀ k, lv'.ownBlock = some k → lv.ownBlock = some k ∨ W.heap.size ≤ k
theorem log_fin {w2 : World} {B b n : Nat} {e : TypeId} {v : Value} {cs : List Value} {L : List Sd} (ho : w2.ownsRow B e 4 v n cs) (hn : n = L.length) (hL : 0 < n) (hcs : cs = L.flatMap sdC) (hb : b < B) (x y : Value) : LogIn ((w2.setCell ⟨b, 0, none⟩ x).setCell ⟨b, 1, none⟩ y) v L := by
  subst hn; subst hcs
  rcases ho.2 with ⟨_, h0⟩ | ⟨g, cap, cur, h1, h2, h3, h4, h5, h6, h7⟩
  · omega
  · subst h1
    refine .inr ⟨g, cap, rfl, by simpa using lt_of_block h3, fun j u hu => ?_⟩
    rw [World.cell?_setCell_far _ _ _ _ (by simp; omega), World.cell?_setCell_far _ _ _ _ (by simp; omega), cell_of_obj h3]
    rw [← h7] at hu
    have hj : j < L.length * 4 := by
      have := (List.getElem?_eq_some_iff.1 hu).1
      rw [List.length_take] at this; omega
    rw [List.getElem?_take_of_lt hj] at hu
    simpa using hu
set_option maxRecDepth 100000 in
set_option maxHeartbeats 4000000 in
theorem rf_set_no (w : World) (f : Fx) (hok : f.ok) (lv : Value) (L : List Sd) (hq : LogIn w lv L) (hlog : LogOf L f) (wi b r x : Int) (hr : ¬ regOk f wi b r) :
    Calls Tryz.prog 32 #[.agg #[.int .i64 f.nw, lv], .int .i64 wi, .int .i64 b, .int .i64 r, .int .u32 x] w (RfSets w lv f L wi b r x) := by
  have HQ := mhid hq
  obtain ⟨p, c, rfl⟩ := hq.shape
  clear hq
  have hbw : Below w.heap.size w ((w.alloc (.cells #[.int .i64 f.nw, .slice p L.length c] 35)).alloc (.cells #[.int .i64 0, .slice none 0 0] 35)) := ((Below.refl _ _).alloc (Nat.le_refl _) _).alloc (by simp) _
  have HB0 := mhid ((R2.new w (.int .i64 f.nw) (.slice p L.length c) 35).al (.cells #[.int .i64 0, .slice none 0 0] 35))
  have HR0 := mhid (show R2 ((w.alloc (.cells #[.int .i64 f.nw, .slice p L.length c] 35)).alloc (.cells #[.int .i64 0, .slice none 0 0] 35)) (w.heap.size + 1) (.int .i64 0) (.slice none 0 0) from by
    have := R2.new (w.alloc (.cells #[.int .i64 f.nw, .slice p L.length c] 35)) (.int .i64 0) (.slice none 0 0) 35
    rw [World.size_alloc] at this; exact this)
  have HP := mhid (rf_place ((w.alloc (.cells #[.int .i64 f.nw, .slice p L.length c] 35)).alloc (.cells #[.int .i64 0, .slice none 0 0] 35)) f hok (.slice p L.length c) ⟨_, _, _, rfl⟩ wi b r)
  have HSZ := mhid (show ((w.alloc (.cells #[.int .i64 f.nw, .slice p L.length c] 35)).alloc (.cells #[.int .i64 0, .slice none 0 0] 35)).heap.size = w.heap.size + 2 by simp)
  have HBW := mhid hbw
  have HLG := mhid hlog
  have hre : regE f wi b r = 2 := if_neg hr
  have b0 := HB0.out.c0
  have b1 := HB0.out.c1
  clear hbw hok hlog
  go_enter Tryz.func32, Tryz.ntmps32
  go_wp2_with fail
  generalize ((w.alloc (.cells #[.int .i64 f.nw, .slice p L.length c] 35)).alloc (.cells #[.int .i64 0, .slice none 0 0] 35)) = W1 at *
  refine HP.out.mono ?_
  rintro e W2 ⟨rfl, hb⟩
  rw [hre]
  unfold plAgg
  rw [if_neg hr, if_neg hr, if_neg hr]
  have HE := mhid (show regE f wi b r = 2 ∧ setV f wi b r x = f from ⟨hre, if_neg hr⟩)
  clear HP hre hr b0 b1
  have HB0 := mhid (HB0.out.keepB hb HB0.out.lt)
  have HR0 := mhid (HR0.out.keepB hb HR0.out.lt)
  have HBW := mhid (HBW.out.trans (hb.mono HBW.out.size))
  have hle2 : w.heap.size + 2 ≤ W2.heap.size := by have := hb.size; have := HSZ.out; omega
  clear hb HSZ
  have HB0 := mhid (HB0.out.al (.cells #[.int .i64 0, .int .i64 0, .int .i64 0] 124))
  have HR0 := mhid (HR0.out.al (.cells #[.int .i64 0, .int .i64 0, .int .i64 0] 124))
  have HBW := mhid (HBW.out.alloc (by omega) (.cells #[.int .i64 0, .int .i64 0, .int .i64 0] 124))
  obtain ⟨b0, b1, bf0, bf1⟩ := HB0.out
  obtain ⟨r0, r1, rf0, rf1⟩ := HR0.out
  go_wp2_with fail
  generalize W2.alloc (.cells #[.int .i64 0, .int .i64 0, .int .i64 0] 124) = W at *
  have hS := (R2.mk r0 r1 rf0 rf1).set (.int .i64 f.nw) (.slice p L.length c)
  have hbel : Below w.heap.size w ((W.setCell ⟨w.heap.size + 1, 0, none⟩ (.int .i64 f.nw)).setCell ⟨w.heap.size + 1, 1, none⟩ (.slice p L.length c)) := (HBW.out.setCell (by simp) _).setCell (by simp) _
  clear r0 r1 rf0 rf1 b0 b1 bf0 bf1 HR0 HB0
  generalize (W.setCell ⟨w.heap.size + 1, 0, none⟩ (.int .i64 f.nw)).setCell ⟨w.heap.size + 1, 1, none⟩ (.slice p L.length c) = W9 at *
  obtain ⟨s0, s1, _, _⟩ := hS
  refine bodyPost_ret (by simp [results, Tryz.results32, go_sem, s0, s1]; try rfl) rfl ?_
  exact ⟨_, _, by rw [HE.out.1], HQ.out.keep hbel, by rw [HE.out.2]; exact HLG.out, by omega, hbel, fun k e => .inl e⟩
set_option maxRecDepth 100000 in
set_option maxHeartbeats 4000000 in
theorem rf_set_nil (w : World) (f : Fx) (hok : f.ok)  (hL : ([] : List Sd).length < 1048576) (hlog : LogOf ([] : List Sd) f) (wi b r x : Int) (hr : regOk f wi b r) :
    Calls Tryz.prog 32 #[.agg #[.int .i64 f.nw, (.slice none 0 0)], .int .i64 wi, .int .i64 b, .int .i64 r, .int .u32 x] w (RfSets w (.slice none 0 0) f ([] : List Sd) wi b r x) := by
  skip
  skip
  obtain ⟨i0, hi, hz0, hz1, hz2⟩ := info_parts infosd
  have HII := mhid (And.intro hi (And.intro hz0 (And.intro hz1 hz2)))
  clear hi hz0 hz1 hz2
  have hbw : Below w.heap.size w ((w.alloc (.cells #[.int .i64 f.nw, (.slice none 0 0)] 35)).alloc (.cells #[.int .i64 0, .slice none 0 0] 35)) := ((Below.refl _ _).alloc (Nat.le_refl _) _).alloc (by simp) _
  have HB0 := mhid ((R2.new w (.int .i64 f.nw) (.slice none 0 0) 35).al (.cells #[.int .i64 0, .slice none 0 0] 35))
  have HR0 := mhid (show R2 ((w.alloc (.cells #[.int .i64 f.nw, (.slice none 0 0)] 35)).alloc (.cells #[.int .i64 0, .slice none 0 0] 35)) (w.heap.size + 1) (.int .i64 0) (.slice none 0 0) from by
    have := R2.new (w.alloc (.cells #[.int .i64 f.nw, (.slice none 0 0)] 35)) (.int .i64 0) (.slice none 0 0) 35
    rw [World.size_alloc] at this; exact this)
  have HP := mhid (rf_place ((w.alloc (.cells #[.int .i64 f.nw, (.slice none 0 0)] 35)).alloc (.cells #[.int .i64 0, .slice none 0 0] 35)) f hok (.slice none 0 0) ⟨_, _, _, rfl⟩ wi b r)
  have HSZ := mhid (show ((w.alloc (.cells #[.int .i64 f.nw, (.slice none 0 0)] 35)).alloc (.cells #[.int .i64 0, .slice none 0 0] 35)).heap.size = w.heap.size + 2 by simp)
  have HBW := mhid hbw
  have HOK := mhid (And.intro hok hr)
  have HLG := mhid hlog
  have hre : regE f wi b r = 0 := if_pos hr
  have b0 := HB0.out.c0
  have b1 := HB0.out.c1
  clear hbw hok hlog
  go_enter Tryz.func32, Tryz.ntmps32
  go_wp2_with fail
  generalize ((w.alloc (.cells #[.int .i64 f.nw, (.slice none 0 0)] 35)).alloc (.cells #[.int .i64 0, .slice none 0 0] 35)) = W1 at *
  refine HP.out.mono ?_
  rintro e W2 ⟨rfl, hb⟩
  rw [hre]
  unfold plAgg
  rw [if_pos hr, if_pos hr, if_pos hr]
  have HLS := mhid (HLG.out.set HOK.out.1 hr x)
  clear HP hre hr b0 b1
  generalize plK r = K at *
  generalize plO (f.nw : Int) wi b r = O at *
  generalize plA r = A at *
  have HB0 := mhid (HB0.out.keepB hb HB0.out.lt)
  have HR0 := mhid (HR0.out.keepB hb HR0.out.lt)
  have HBW := mhid (HBW.out.trans (hb.mono HBW.out.size))
  have hle2 : w.heap.size + 2 ≤ W2.heap.size := by have := hb.size; have := HSZ.out; omega
  clear hb HSZ
  obtain ⟨C, hC⟩ : ∃ C, C = W2.heap.size := ⟨_, rfl⟩
  have HB0 := mhid (HB0.out.al (.cells #[.int .i64 K, .int .i64 O, .int .i64 A] 124))
  have HR0 := mhid (HR0.out.al (.cells #[.int .i64 K, .int .i64 O, .int .i64 A] 124))
  have HC0 := mhid (show R3 (W2.alloc (.cells #[.int .i64 K, .int .i64 O, .int .i64 A] 124)) C (.int .i64 K) (.int .i64 O) (.int .i64 A) from by rw [hC]; exact R3.new _ _ _ _ _)
  have HBW := mhid (HBW.out.alloc (by omega) (.cells #[.int .i64 K, .int .i64 O, .int .i64 A] 124))
  have HLE := mhid (show C + 1 ≤ (W2.alloc (.cells #[.int .i64 K, .int .i64 O, .int .i64 A] 124)).heap.size from by rw [hC, World.size_alloc]; omega)
  have hCw : w.heap.size + 2 ≤ C := by omega
  go_wp2_with fail
  rw [← hC]
  clear hC hle2
  generalize W2.alloc (.cells #[.int .i64 K, .int .i64 O, .int .i64 A] 124) = W at *
  obtain ⟨b0, b1, bf0, bf1⟩ := HB0.out
  obtain ⟨r0, r1, rf0, rf1⟩ := HR0.out
  obtain ⟨k0, k1, k2⟩ := HC0.out
  have HKS := mhid (show ∀ w', Below (C + 1) W w' → w'.cell? ⟨w.heap.size, 0, none⟩ = some (.int .i64 f.nw) ∧ w'.cell? ⟨w.heap.size, 1, none⟩ = some (.slice none 0 0) ∧ w'.cell? ⟨C, 0, none⟩ = some (.int .i64 K) ∧ w'.cell? ⟨C, 1, none⟩ = some (.int .i64 O) ∧ w'.cell? ⟨C, 2, none⟩ = some (.int .i64 A) from fun w' hb => by
    have h1 := HB0.out.keepB hb (by omega)
    have h2 := HC0.out.keepB hb (by omega)
    exact ⟨h1.c0, h1.c1, h2.c0, h2.c1, h2.c2⟩)
  have HKS2 := mhid (show ∀ w' u v, Below (C + 1) W w' → (fun w' => w'.cell? ⟨w.heap.size, 0, none⟩ = some (.int .i64 f.nw) ∧ w'.cell? ⟨w.heap.size, 1, none⟩ = some (.slice none 0 0) ∧ w'.cell? ⟨C, 0, none⟩ = some (.int .i64 K) ∧ w'.cell? ⟨C, 1, none⟩ = some (.int .i64 O) ∧ w'.cell? ⟨C, 2, none⟩ = some (.int .i64 A)) ((w'.setCell ⟨w.heap.size + 1, 0, none⟩ u).setCell ⟨w.heap.size + 1, 1, none⟩ v) from fun w' u v hb => by
    have h1 := HKS.out w' hb
    have k : ∀ (b i : Nat) (x : Value), b ≠ w.heap.size + 1 → w'.cell? ⟨b, i, none⟩ = some x → ((w'.setCell ⟨w.heap.size + 1, 0, none⟩ u).setCell ⟨w.heap.size + 1, 1, none⟩ v).cell? ⟨b, i, none⟩ = some x := fun b i x hne h => ((World.cell?_setCell_far _ _ _ _ (fun e => hne e.symm)).trans (World.cell?_setCell_far _ _ _ _ (fun e => hne e.symm))).trans h
    exact ⟨k _ _ _ (by omega) h1.1, k _ _ _ (by omega) h1.2.1, k _ _ _ (by omega) h1.2.2.1, k _ _ _ (by omega) h1.2.2.2.1, k _ _ _ (by omega) h1.2.2.2.2⟩)
  have hi := HII.out.1
  have hbl0 := Below.refl (C + 1) W
  have hle : C + 1 ≤ W.heap.size := HLE.out
  have HW1 : Hid ((W.alloc (.cells #[] 128)).ownsRow (C + 1) 128 4 (.slice (some ⟨W.heap.size, 0, none⟩) 0 0) 0 []) := mhid (World.ownsRow_made W #[] 0 hle (Nat.zero_le _) rfl)
  have HW2 : Hid (((W.alloc (.cells #[.int .i64 K, .int .i64 O, .int .i64 A, .int .u32 x] 128)).alloc (.cells #[] 128)).ownsRow (C + 1) 128 4 (.slice (some ⟨W.heap.size + 1, 0, none⟩) 0 0) 0 []) := by
    have h := World.ownsRow_made (base := C + 1) (size := 4) (e := 128) (W.alloc (.cells #[.int .i64 K, .int .i64 O, .int .i64 A, .int .u32 x] 128)) #[] 0 (by simp; omega) (Nat.zero_le _) rfl
    rw [show (W.alloc (.cells #[.int .i64 K, .int .i64 O, .int .i64 A, .int .u32 x] 128)).heap.size = W.heap.size + 1 by simp] at h
    exact mhid h
  have HN1 : Hid (∀ (j : Nat) u, [.int .i64 K, .int .i64 O, .int .i64 A, .int .u32 x][j]? = some u → ((W.alloc (.cells #[] 128)).alloc (.cells #[.int .i64 K, .int .i64 O, .int .i64 A, .int .u32 x] 128)).drew.cell? ((⟨W.heap.size + 1, 0, none⟩ : Addr).add j) = some u) := by
    have h := cells_new (W.alloc (.cells #[] 128)) #[.int .i64 K, .int .i64 O, .int .i64 A, .int .u32 x] 128
    rw [show (W.alloc (.cells #[] 128)).heap.size = W.heap.size + 1 by simp] at h
    exact mhid h
  have HN2 : Hid (∀ (j : Nat) u, [.int .i64 K, .int .i64 O, .int .i64 A, .int .u32 x][j]? = some u → ((W.alloc (.cells #[.int .i64 K, .int .i64 O, .int .i64 A, .int .u32 x] 128)).alloc (.cells #[] 128)).drew.cell? ((⟨W.heap.size, 0, none⟩ : Addr).add j) = some u) := mhid fun j u hu => Lib.cell?_alloc_some _ (cells_new W #[.int .i64 K, .int .i64 O, .int .i64 A, .int .u32 x] 128 j u hu)
  go_region_held3 (fun w' => w'.cell? ⟨w.heap.size, 0, none⟩ = some (.int .i64 f.nw) ∧ w'.cell? ⟨w.heap.size, 1, none⟩ = some (.slice none 0 0) ∧ w'.cell? ⟨C, 0, none⟩ = some (.int .i64 K) ∧ w'.cell? ⟨C, 1, none⟩ = some (.int .i64 O) ∧ w'.cell? ⟨C, 2, none⟩ = some (.int .i64 A)) (first | (refine HKS.out _ ?_; go_grown; done) | (refine HKS2.out _ _ _ ?_; go_grown; done))
    (first
      | (refine step_append_none _ (by rfl) (.tmp 28) (.tmp 30) 33 (by rfl) (C + 1) 128 i0 4 Tryz.underlying33 hi (.slice (some ⟨W.heap.size, 0, none⟩) 0 0) 0 [] (by rfl) HW1.out.drew (by rfl) ?_)
      | (refine step_append_none _ (by rfl) (.tmp 28) (.tmp 30) 33 (by rfl) (C + 1) 128 i0 4 Tryz.underlying33 hi (.slice (some ⟨W.heap.size, 0, none⟩) 0 0) 0 [] (by rfl) ((HW1.out.alloc _).drew) (by rfl) ?_)
      | (refine step_append_none _ (by rfl) (.tmp 28) (.tmp 30) 33 (by rfl) (C + 1) 128 i0 4 Tryz.underlying33 hi (.slice (some ⟨W.heap.size + 1, 0, none⟩) 0 0) 0 [] (by rfl) HW2.out.drew (by rfl) ?_)
      | (refine step_append_some _ (by rfl) (.tmp 31) (.tmp 35) 33 (by rfl) (C + 1) 128 i0 _ 4 32 Tryz.underlying33 hi HII.out.2.1 HII.out.2.2.1 HII.out.2.2.2 rfl (by decide) W.heap.size (0) 0 ([]) (by rfl) ((HW1.out.alloc _).drew) ⟨W.heap.size + 1, 0, none⟩ (1) 1 ([.int .i64 K, .int .i64 O, .int .i64 A, .int .u32 x]) (by rfl) (by rfl) HN1.out (by simp [Value.oneCell']) (by unfold maxLen; omega) (by omega) (by first | exact hle | (simp; omega) | (have := hbA.size; simp; omega)) ?_; intro g2 cap2 w2 hown2 hg2; have hb2 : Below (C + 1) W w2 := Below.grown (by go_grown) hg2 (by first | exact hle | (simp; omega) | (have := hbA.size; simp; omega)) (by intro k hk; cases hk; first | exact hle | omega | exact (hownA.lt _ rfl).1); obtain ⟨r0, r1, rf0, rf1⟩ := HR0.out.keepB hb2 (by omega))
      | (refine step_append_some _ (by rfl) (.tmp 31) (.tmp 35) 33 (by rfl) (C + 1) 128 i0 _ 4 32 Tryz.underlying33 hi HII.out.2.1 HII.out.2.2.1 HII.out.2.2.2 rfl (by decide) (W.heap.size + 1) (0) 0 ([]) (by rfl) HW2.out.drew ⟨W.heap.size, 0, none⟩ (1) 1 ([.int .i64 K, .int .i64 O, .int .i64 A, .int .u32 x]) (by rfl) (by rfl) HN2.out (by simp [Value.oneCell']) (by unfold maxLen; omega) (by omega) (by first | exact hle | (simp; omega) | (have := hbA.size; simp; omega)) ?_; intro g2 cap2 w2 hown2 hg2; have hb2 : Below (C + 1) W w2 := Below.grown (by go_grown) hg2 (by first | exact hle | (simp; omega) | (have := hbA.size; simp; omega)) (by intro k hk; cases hk; first | exact hle | omega | exact (hownA.lt _ rfl).1); obtain ⟨r0, r1, rf0, rf1⟩ := HR0.out.keepB hb2 (by omega)))
  all_goals
    go_wp2_with fail
    have hS := (R2.mk r0 r1 rf0 rf1).set (.int .i64 f.nw) (.slice (some ⟨g2, 0, none⟩) 1 cap2)
    have hbel : Below w.heap.size w ((w2.setCell ⟨w.heap.size + 1, 0, none⟩ (.int .i64 f.nw)).setCell ⟨w.heap.size + 1, 1, none⟩ (.slice (some ⟨g2, 0, none⟩) 1 cap2)) := ((HBW.out.trans (hb2.mono (by omega))).setCell (by simp) _).setCell (by simp) _
    have hit : LogIn ((w2.setCell ⟨w.heap.size + 1, 0, none⟩ (.int .i64 f.nw)).setCell ⟨w.heap.size + 1, 1, none⟩ (.slice (some ⟨g2, 0, none⟩) 1 cap2)) (.slice (some ⟨g2, 0, none⟩) 1 cap2) (([] : List Sd) ++ [⟨K, O, A, x⟩]) := log_fin hown2 (by simp) (by omega) (by simp [sdC]) (by omega) _ _
    have hfrom : ∀ k, ((.slice (some ⟨g2, 0, none⟩) 1 cap2) : Value).ownBlock = some k → ((.slice none 0 0) : Value).ownBlock = some k ∨ w.heap.size ≤ k := fun kk hkk => .inr (by have := (hown2.lt kk hkk).1; omega)
    clear r0 r1 rf0 rf1 hown2 hg2 hb2 HKS HKS2 HW1 HW2 HN1 HN2 HR0 HB0
    generalize (w2.setCell ⟨w.heap.size + 1, 0, none⟩ (.int .i64 f.nw)).setCell ⟨w.heap.size + 1, 1, none⟩ (.slice (some ⟨g2, 0, none⟩) 1 cap2) = W9 at *
    obtain ⟨s0, s1, _, _⟩ := hS
    refine bodyPost_ret (by simp [results, Tryz.results32, go_sem, s0, s1]; try rfl) rfl ?_
    exact ⟨_, _, by rw [show regE f wi b r = 0 from if_pos HOK.out.2], hit, HLS.out, by simp, hbel, hfrom⟩
set_option maxRecDepth 100000 in
set_option maxHeartbeats 4000000 in
theorem rf_set_some (w : World) (f : Fx) (hok : f.ok) (g cap : Nat) (L : List Sd) (hq : LogIn w (.slice (some ⟨g, 0, none⟩) L.length cap) L) (hg : g < w.heap.size) (hcells : ∀ (j : Nat) u, (L.flatMap sdC)[j]? = some u → w.cell? ⟨g, j, none⟩ = some u) (hL : L.length < 1048576) (hlog : LogOf L f) (wi b r x : Int) (hr : regOk f wi b r) :
    Calls Tryz.prog 32 #[.agg #[.int .i64 f.nw, (.slice (some ⟨g, 0, none⟩) L.length cap)], .int .i64 wi, .int .i64 b, .int .i64 r, .int .u32 x] w (RfSets w (.slice (some ⟨g, 0, none⟩) L.length cap) f L wi b r x) := by
  have HG := mhid (And.intro hg hcells)
  clear hg hcells hq
  obtain ⟨i0, hi, hz0, hz1, hz2⟩ := info_parts infosd
  have HII := mhid (And.intro hi (And.intro hz0 (And.intro hz1 hz2)))
  clear hi hz0 hz1 hz2
  have hbw : Below w.heap.size w ((w.alloc (.cells #[.int .i64 f.nw, (.slice (some ⟨g, 0, none⟩) L.length cap)] 35)).alloc (.cells #[.int .i64 0, .slice none 0 0] 35)) := ((Below.refl _ _).alloc (Nat.le_refl _) _).alloc (by simp) _
  have HB0 := mhid ((R2.new w (.int .i64 f.nw) (.slice (some ⟨g, 0, none⟩) L.length cap) 35).al (.cells #[.int .i64 0, .slice none 0 0] 35))
  have HR0 := mhid (show R2 ((w.alloc (.cells #[.int .i64 f.nw, (.slice (some ⟨g, 0, none⟩) L.length cap)] 35)).alloc (.cells #[.int .i64 0, .slice none 0 0] 35)) (w.heap.size + 1) (.int .i64 0) (.slice none 0 0) from by
    have := R2.new (w.alloc (.cells #[.int .i64 f.nw, (.slice (some ⟨g, 0, none⟩) L.length cap)] 35)) (.int .i64 0) (.slice none 0 0) 35
    rw [World.size_alloc] at this; exact this)
  have HP := mhid (rf_place ((w.alloc (.cells #[.int .i64 f.nw, (.slice (some ⟨g, 0, none⟩) L.length cap)] 35)).alloc (.cells #[.int .i64 0, .slice none 0 0] 35)) f hok (.slice (some ⟨g, 0, none⟩) L.length cap) ⟨_, _, _, rfl⟩ wi b r)
  have HSZ := mhid (show ((w.alloc (.cells #[.int .i64 f.nw, (.slice (some ⟨g, 0, none⟩) L.length cap)] 35)).alloc (.cells #[.int .i64 0, .slice none 0 0] 35)).heap.size = w.heap.size + 2 by simp)
  have HBW := mhid hbw
  have HOK := mhid (And.intro hok hr)
  have HLG := mhid hlog
  have hre : regE f wi b r = 0 := if_pos hr
  have b0 := HB0.out.c0
  have b1 := HB0.out.c1
  clear hbw hok hlog
  go_enter Tryz.func32, Tryz.ntmps32
  go_wp2_with fail
  generalize ((w.alloc (.cells #[.int .i64 f.nw, (.slice (some ⟨g, 0, none⟩) L.length cap)] 35)).alloc (.cells #[.int .i64 0, .slice none 0 0] 35)) = W1 at *
  refine HP.out.mono ?_
  rintro e W2 ⟨rfl, hb⟩
  rw [hre]
  unfold plAgg
  rw [if_pos hr, if_pos hr, if_pos hr]
  have HLS := mhid (HLG.out.set HOK.out.1 hr x)
  clear HP hre hr b0 b1
  generalize plK r = K at *
  generalize plO (f.nw : Int) wi b r = O at *
  generalize plA r = A at *
  have HB0 := mhid (HB0.out.keepB hb HB0.out.lt)
  have HR0 := mhid (HR0.out.keepB hb HR0.out.lt)
  have HBW := mhid (HBW.out.trans (hb.mono HBW.out.size))
  have hle2 : w.heap.size + 2 ≤ W2.heap.size := by have := hb.size; have := HSZ.out; omega
  clear hb HSZ
  obtain ⟨C, hC⟩ : ∃ C, C = W2.heap.size := ⟨_, rfl⟩
  have HB0 := mhid (HB0.out.al (.cells #[.int .i64 K, .int .i64 O, .int .i64 A] 124))
  have HR0 := mhid (HR0.out.al (.cells #[.int .i64 K, .int .i64 O, .int .i64 A] 124))
  have HC0 := mhid (show R3 (W2.alloc (.cells #[.int .i64 K, .int .i64 O, .int .i64 A] 124)) C (.int .i64 K) (.int .i64 O) (.int .i64 A) from by rw [hC]; exact R3.new _ _ _ _ _)
  have HBW := mhid (HBW.out.alloc (by omega) (.cells #[.int .i64 K, .int .i64 O, .int .i64 A] 124))
  have HLE := mhid (show C + 1 ≤ (W2.alloc (.cells #[.int .i64 K, .int .i64 O, .int .i64 A] 124)).heap.size from by rw [hC, World.size_alloc]; omega)
  have hCw : w.heap.size + 2 ≤ C := by omega
  go_wp2_with fail
  rw [← hC]
  clear hC hle2
  generalize W2.alloc (.cells #[.int .i64 K, .int .i64 O, .int .i64 A] 124) = W at *
  obtain ⟨b0, b1, bf0, bf1⟩ := HB0.out
  obtain ⟨r0, r1, rf0, rf1⟩ := HR0.out
  obtain ⟨k0, k1, k2⟩ := HC0.out
  have HKS := mhid (show ∀ w', Below (C + 1) W w' → w'.cell? ⟨w.heap.size, 0, none⟩ = some (.int .i64 f.nw) ∧ w'.cell? ⟨w.heap.size, 1, none⟩ = some (.slice (some ⟨g, 0, none⟩) L.length cap) ∧ w'.cell? ⟨C, 0, none⟩ = some (.int .i64 K) ∧ w'.cell? ⟨C, 1, none⟩ = some (.int .i64 O) ∧ w'.cell? ⟨C, 2, none⟩ = some (.int .i64 A) from fun w' hb => by
    have h1 := HB0.out.keepB hb (by omega)
    have h2 := HC0.out.keepB hb (by omega)
    exact ⟨h1.c0, h1.c1, h2.c0, h2.c1, h2.c2⟩)
  have HKS2 := mhid (show ∀ w' u v, Below (C + 1) W w' → (fun w' => w'.cell? ⟨w.heap.size, 0, none⟩ = some (.int .i64 f.nw) ∧ w'.cell? ⟨w.heap.size, 1, none⟩ = some (.slice (some ⟨g, 0, none⟩) L.length cap) ∧ w'.cell? ⟨C, 0, none⟩ = some (.int .i64 K) ∧ w'.cell? ⟨C, 1, none⟩ = some (.int .i64 O) ∧ w'.cell? ⟨C, 2, none⟩ = some (.int .i64 A)) ((w'.setCell ⟨w.heap.size + 1, 0, none⟩ u).setCell ⟨w.heap.size + 1, 1, none⟩ v) from fun w' u v hb => by
    have h1 := HKS.out w' hb
    have k : ∀ (b i : Nat) (x : Value), b ≠ w.heap.size + 1 → w'.cell? ⟨b, i, none⟩ = some x → ((w'.setCell ⟨w.heap.size + 1, 0, none⟩ u).setCell ⟨w.heap.size + 1, 1, none⟩ v).cell? ⟨b, i, none⟩ = some x := fun b i x hne h => ((World.cell?_setCell_far _ _ _ _ (fun e => hne e.symm)).trans (World.cell?_setCell_far _ _ _ _ (fun e => hne e.symm))).trans h
    exact ⟨k _ _ _ (by omega) h1.1, k _ _ _ (by omega) h1.2.1, k _ _ _ (by omega) h1.2.2.1, k _ _ _ (by omega) h1.2.2.2.1, k _ _ _ (by omega) h1.2.2.2.2⟩)
  have HSRC := mhid (fun (j : Nat) (u : Value) (hu : (L.flatMap sdC)[j]? = some u) => show W.cell? ((⟨g, 0, none⟩ : Addr).add j) = some u by rw [addr_add0]; exact (HBW.out.cell (p := ⟨g, j, none⟩) HG.out.1).trans (HG.out.2 j u hu))
  have hi := HII.out.1
  have hbl0 := Below.refl (C + 1) W
  have hle : C + 1 ≤ W.heap.size := HLE.out
  have HW1 : Hid ((W.alloc (.cells #[] 128)).ownsRow (C + 1) 128 4 (.slice (some ⟨W.heap.size, 0, none⟩) 0 0) 0 []) := mhid (World.ownsRow_made W #[] 0 hle (Nat.zero_le _) rfl)
  have HW2 : Hid (((W.alloc (.cells #[.int .i64 K, .int .i64 O, .int .i64 A, .int .u32 x] 128)).alloc (.cells #[] 128)).ownsRow (C + 1) 128 4 (.slice (some ⟨W.heap.size + 1, 0, none⟩) 0 0) 0 []) := by
    have h := World.ownsRow_made (base := C + 1) (size := 4) (e := 128) (W.alloc (.cells #[.int .i64 K, .int .i64 O, .int .i64 A, .int .u32 x] 128)) #[] 0 (by simp; omega) (Nat.zero_le _) rfl
    rw [show (W.alloc (.cells #[.int .i64 K, .int .i64 O, .int .i64 A, .int .u32 x] 128)).heap.size = W.heap.size + 1 by simp] at h
    exact mhid h
  have HN1 : Hid (∀ (j : Nat) u, [.int .i64 K, .int .i64 O, .int .i64 A, .int .u32 x][j]? = some u → ((W.alloc (.cells #[] 128)).alloc (.cells #[.int .i64 K, .int .i64 O, .int .i64 A, .int .u32 x] 128)).drew.cell? ((⟨W.heap.size + 1, 0, none⟩ : Addr).add j) = some u) := by
    have h := cells_new (W.alloc (.cells #[] 128)) #[.int .i64 K, .int .i64 O, .int .i64 A, .int .u32 x] 128
    rw [show (W.alloc (.cells #[] 128)).heap.size = W.heap.size + 1 by simp] at h
    exact mhid h
  have HN2 : Hid (∀ (j : Nat) u, [.int .i64 K, .int .i64 O, .int .i64 A, .int .u32 x][j]? = some u → ((W.alloc (.cells #[.int .i64 K, .int .i64 O, .int .i64 A, .int .u32 x] 128)).alloc (.cells #[] 128)).drew.cell? ((⟨W.heap.size, 0, none⟩ : Addr).add j) = some u) := mhid fun j u hu => Lib.cell?_alloc_some _ (cells_new W #[.int .i64 K, .int .i64 O, .int .i64 A, .int .u32 x] 128 j u hu)
  go_region_held3 (fun w' => w'.cell? ⟨w.heap.size, 0, none⟩ = some (.int .i64 f.nw) ∧ w'.cell? ⟨w.heap.size, 1, none⟩ = some (.slice (some ⟨g, 0, none⟩) L.length cap) ∧ w'.cell? ⟨C, 0, none⟩ = some (.int .i64 K) ∧ w'.cell? ⟨C, 1, none⟩ = some (.int .i64 O) ∧ w'.cell? ⟨C, 2, none⟩ = some (.int .i64 A)) (first | (refine HKS.out _ ?_; go_grown; done) | (refine HKS2.out _ _ _ ?_; go_grown; done))
    (first
      | (refine step_append_some _ (by rfl) (.tmp 28) (.tmp 30) 33 (by rfl) (C + 1) 128 i0 _ 4 32 Tryz.underlying33 hi HII.out.2.1 HII.out.2.2.1 HII.out.2.2.2 rfl (by decide) W.heap.size (0) 0 ([]) (by rfl) HW1.out.drew ⟨g, 0, none⟩ (L.length) cap (L.flatMap sdC) (by rfl) (sds_len L) (fun j u hu => Lib.cell?_alloc_some _ (HSRC.out j u hu)) (sds_one L) (by unfold maxLen; omega) (by omega) (by first | exact hle | (simp; omega) | (have := hbA.size; simp; omega)) ?_; intro gA capA wA hownA hgA; rw [Nat.zero_add, List.nil_append] at hownA; have hbA : Below (C + 1) W wA := Below.grown (by go_grown) hgA (by first | exact hle | (simp; omega)) (by intro k hk; cases hk; first | exact hle | omega); have hleA : C + 1 ≤ wA.heap.size := Nat.le_trans hle hbA.size)
      | (refine step_append_some _ (by rfl) (.tmp 28) (.tmp 30) 33 (by rfl) (C + 1) 128 i0 _ 4 32 Tryz.underlying33 hi HII.out.2.1 HII.out.2.2.1 HII.out.2.2.2 rfl (by decide) W.heap.size (0) 0 ([]) (by rfl) ((HW1.out.alloc _).drew) ⟨g, 0, none⟩ (L.length) cap (L.flatMap sdC) (by rfl) (sds_len L) (fun j u hu => Lib.cell?_alloc_some _ (Lib.cell?_alloc_some _ (HSRC.out j u hu))) (sds_one L) (by unfold maxLen; omega) (by omega) (by first | exact hle | (simp; omega) | (have := hbA.size; simp; omega)) ?_; intro gA capA wA hownA hgA; rw [Nat.zero_add, List.nil_append] at hownA; have hbA : Below (C + 1) W wA := Below.grown (by go_grown) hgA (by first | exact hle | (simp; omega)) (by intro k hk; cases hk; first | exact hle | omega); have hleA : C + 1 ≤ wA.heap.size := Nat.le_trans hle hbA.size; have hXB : ∀ (j : Nat) u, [.int .i64 K, .int .i64 O, .int .i64 A, .int .u32 x][j]? = some u → wA.cell? ((⟨W.heap.size + 1, 0, none⟩ : Addr).add j) = some u := (fun j u hu => (hgA.cell_far _ (by rw [addr_add0]; simp <;> omega) (by rw [addr_add0]; simp)).trans (HN1.out j u hu)))
      | (refine step_append_some _ (by rfl) (.tmp 28) (.tmp 30) 33 (by rfl) (C + 1) 128 i0 _ 4 32 Tryz.underlying33 hi HII.out.2.1 HII.out.2.2.1 HII.out.2.2.2 rfl (by decide) (W.heap.size + 1) (0) 0 ([]) (by rfl) HW2.out.drew ⟨g, 0, none⟩ (L.length) cap (L.flatMap sdC) (by rfl) (sds_len L) (fun j u hu => Lib.cell?_alloc_some _ (Lib.cell?_alloc_some _ (HSRC.out j u hu))) (sds_one L) (by unfold maxLen; omega) (by omega) (by first | exact hle | (simp; omega) | (have := hbA.size; simp; omega)) ?_; intro gA capA wA hownA hgA; rw [Nat.zero_add, List.nil_append] at hownA; have hbA : Below (C + 1) W wA := Below.grown (by go_grown) hgA (by first | exact hle | (simp; omega)) (by intro k hk; cases hk; first | exact hle | omega); have hleA : C + 1 ≤ wA.heap.size := Nat.le_trans hle hbA.size; have hXC : ∀ (j : Nat) u, [.int .i64 K, .int .i64 O, .int .i64 A, .int .u32 x][j]? = some u → wA.cell? ((⟨W.heap.size, 0, none⟩ : Addr).add j) = some u := (fun j u hu => (hgA.cell_far _ (by rw [addr_add0]; simp <;> omega) (by rw [addr_add0]; simp)).trans (HN2.out j u hu)))
      | (have _t := hXB; refine step_append_some _ (by rfl) (.tmp 31) (.tmp 35) 33 (by rfl) (C + 1) 128 i0 _ 4 32 Tryz.underlying33 hi HII.out.2.1 HII.out.2.2.1 HII.out.2.2.2 rfl (by decide) gA (L.length) capA (_) (by first | rfl | exact (congrArg (fun k => Value.slice (some ⟨gA, 0, none⟩) k capA) (Nat.zero_add _))) hownA ⟨W.heap.size + 1, 0, none⟩ (1) 1 ([.int .i64 K, .int .i64 O, .int .i64 A, .int .u32 x]) (by rfl) (by rfl) hXB (by simp [Value.oneCell']) (by unfold maxLen; omega) (by omega) (by first | exact hle | (simp; omega) | (have := hbA.size; simp; omega)) ?_; intro g2 cap2 w2 hown2 hg2; have hb2 : Below (C + 1) W w2 := Below.grown (by go_grown) hg2 (by first | exact hle | (simp; omega) | (have := hbA.size; simp; omega)) (by intro k hk; cases hk; first | exact hle | omega | exact (hownA.lt _ rfl).1); obtain ⟨r0, r1, rf0, rf1⟩ := HR0.out.keepB hb2 (by omega))
      | (have _t := hXC; refine step_append_some _ (by rfl) (.tmp 31) (.tmp 35) 33 (by rfl) (C + 1) 128 i0 _ 4 32 Tryz.underlying33 hi HII.out.2.1 HII.out.2.2.1 HII.out.2.2.2 rfl (by decide) gA (L.length) capA (_) (by first | rfl | exact (congrArg (fun k => Value.slice (some ⟨gA, 0, none⟩) k capA) (Nat.zero_add _))) hownA ⟨W.heap.size, 0, none⟩ (1) 1 ([.int .i64 K, .int .i64 O, .int .i64 A, .int .u32 x]) (by rfl) (by rfl) hXC (by simp [Value.oneCell']) (by unfold maxLen; omega) (by omega) (by first | exact hle | (simp; omega) | (have := hbA.size; simp; omega)) ?_; intro g2 cap2 w2 hown2 hg2; have hb2 : Below (C + 1) W w2 := Below.grown (by go_grown) hg2 (by first | exact hle | (simp; omega) | (have := hbA.size; simp; omega)) (by intro k hk; cases hk; first | exact hle | omega | exact (hownA.lt _ rfl).1); obtain ⟨r0, r1, rf0, rf1⟩ := HR0.out.keepB hb2 (by omega))
      | (refine step_append_some _ (by rfl) (.tmp 31) (.tmp 35) 33 (by rfl) (C + 1) 128 i0 _ 4 32 Tryz.underlying33 hi HII.out.2.1 HII.out.2.2.1 HII.out.2.2.2 rfl (by decide) gA (L.length) capA (_) (by first | rfl | exact (congrArg (fun k => Value.slice (some ⟨gA, 0, none⟩) k capA) (Nat.zero_add _))) (hownA.alloc _) ⟨wA.heap.size, 0, none⟩ (1) 1 ([.int .i64 K, .int .i64 O, .int .i64 A, .int .u32 x]) (by rfl) (by rfl) (cells_new wA _ _) (by simp [Value.oneCell']) (by unfold maxLen; omega) (by omega) (by first | exact hle | (simp; omega) | (have := hbA.size; simp; omega)) ?_; intro g2 cap2 w2 hown2 hg2; have hb2 : Below (C + 1) W w2 := Below.grown (by go_grown) hg2 (by first | exact hle | (simp; omega) | (have := hbA.size; simp; omega)) (by intro k hk; cases hk; first | exact hle | omega | exact (hownA.lt _ rfl).1); obtain ⟨r0, r1, rf0, rf1⟩ := HR0.out.keepB hb2 (by omega)))
  all_goals
    go_wp2_with fail
    have hS := (R2.mk r0 r1 rf0 rf1).set (.int .i64 f.nw) (.slice (some ⟨g2, 0, none⟩) (L.length + 1) cap2)
    have hbel : Below w.heap.size w ((w2.setCell ⟨w.heap.size + 1, 0, none⟩ (.int .i64 f.nw)).setCell ⟨w.heap.size + 1, 1, none⟩ (.slice (some ⟨g2, 0, none⟩) (L.length + 1) cap2)) := ((HBW.out.trans (hb2.mono (by omega))).setCell (by simp) _).setCell (by simp) _
    have hit : LogIn ((w2.setCell ⟨w.heap.size + 1, 0, none⟩ (.int .i64 f.nw)).setCell ⟨w.heap.size + 1, 1, none⟩ (.slice (some ⟨g2, 0, none⟩) (L.length + 1) cap2)) (.slice (some ⟨g2, 0, none⟩) (L.length + 1) cap2) (L ++ [⟨K, O, A, x⟩]) := log_fin hown2 (by simp) (by omega) (by rw [List.flatMap_append]; simp [sdC]) (by omega) _ _
    have hfrom : ∀ k, ((.slice (some ⟨g2, 0, none⟩) (L.length + 1) cap2) : Value).ownBlock = some k → ((.slice (some ⟨g, 0, none⟩) L.length cap) : Value).ownBlock = some k ∨ w.heap.size ≤ k := fun kk hkk => .inr (by have := (hown2.lt kk hkk).1; omega)
    clear r0 r1 rf0 rf1 hown2 hg2 hb2 HKS HKS2 HW1 HW2 HN1 HN2 HR0 HB0
    generalize (w2.setCell ⟨w.heap.size + 1, 0, none⟩ (.int .i64 f.nw)).setCell ⟨w.heap.size + 1, 1, none⟩ (.slice (some ⟨g2, 0, none⟩) (L.length + 1) cap2) = W9 at *
    obtain ⟨s0, s1, _, _⟩ := hS
    refine bodyPost_ret (by simp [results, Tryz.results32, go_sem, s0, s1]; try rfl) rfl ?_
    exact ⟨_, _, by rw [show regE f wi b r = 0 from if_pos HOK.out.2], hit, HLS.out, by simp, hbel, hfrom⟩
theorem rf_set (w : World) (f : Fx) (hok : f.ok) (lv : Value) (L : List Sd) (hq : LogIn w lv L) (hL : L.length < 1048576) (hlog : LogOf L f) (wi b r x : Int) :
    Calls Tryz.prog 32 #[.agg #[.int .i64 f.nw, lv], .int .i64 wi, .int .i64 b, .int .i64 r, .int .u32 x] w (RfSets w lv f L wi b r x) := by
  by_cases hr : regOk f wi b r
  · rcases hq with ⟨rfl, rfl⟩ | ⟨g, cap, rfl, hg, hc⟩
    · exact rf_set_nil w f hok hL hlog wi b r x hr
    · exact rf_set_some w f hok g cap L (.inr ⟨g, cap, rfl, hg, hc⟩) hg hc hL hlog wi b r x hr
  · exact rf_set_no w f hok lv L hq hlog wi b r x hr
end Go.Proofs.YtgdebchbdmogcaaGreatDoor
