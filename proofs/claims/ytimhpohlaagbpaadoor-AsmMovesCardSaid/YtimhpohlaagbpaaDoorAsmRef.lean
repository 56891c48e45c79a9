/- The document's list (muntinref07): how it lies; the walk of At. -/
import Derived.Test.YtimhpohlaagbpaaDoorAsmCopy
namespace Go.Proofs.YtimhpohlaagbpaaDoor
open Go.RowKit Go.Maps
set_option linter.unusedVariables false
set_option linter.unusedSimpArgs false
/-- A slice that was made here (or nil), as it is read: n things of so many cells. -/
def RowC (w : World) (v : Value) (size n : Nat) (cs : List Value) : Prop :=
  cs.length = n * size ∧ ((v = .slice none 0 0 ∧ n = 0) ∨ ∃ g cap, v = .slice (some ⟨g, 0, none⟩) n cap ∧ n ≤ cap ∧ cap ≤ maxLen ∧ g < w.heap.size ∧ ∀ (j : Nat) u, cs[j]? = some u → w.cell? ⟨g, j, none⟩ = some u)
theorem RowC.of_own {w : World} {B : Nat} {e : TypeId} {size n : Nat} {v : Value} {cs : List Value} (h : w.ownsRow B e size v n cs) : RowC w v size n cs := by
  refine ⟨h.1, ?_⟩
  rcases h.2 with h1 | ⟨g, cap, cur, rfl, hb, hc, h2, h3, _⟩
  · exact .inl h1
  · exact .inr ⟨g, cap, rfl, h2, h3, lt_of_block hc, fun j u hu => by have := h.cells rfl j u hu; rwa [addr_add0] at this⟩
theorem RowC.keep {a b : World} {size n : Nat} {v : Value} {cs : List Value} (h : RowC a v size n cs) (hb : Below a.heap.size a b) : RowC b v size n cs := by
  refine ⟨h.1, ?_⟩
  rcases h.2 with h1 | ⟨g, cap, rfl, h2, h3, h4, h5⟩
  · exact .inl h1
  · exact .inr ⟨g, cap, rfl, h2, h3, Nat.lt_of_lt_of_le h4 hb.size, fun j u hu => ((acell hb).1 g j h4).trans (h5 j u hu)⟩
theorem RowC.keepO {S : Nat → Prop} {a b : World} {size n : Nat} {v : Value} {cs : List Value} (h : RowC a v size n cs) (o : Only S a b) (hs : ∀ k, v.ownBlock = some k → ¬ S k) : RowC b v size n cs := by
  refine ⟨h.1, ?_⟩
  rcases h.2 with h1 | ⟨g, cap, rfl, h2, h3, h4, h5⟩
  · exact .inl h1
  · exact .inr ⟨g, cap, rfl, h2, h3, Nat.lt_of_lt_of_le h4 o.size, fun j u hu => (o.cell (p := ⟨g, j, none⟩) h4 (hs g rfl)).trans (h5 j u hu)⟩
theorem RowC.shape {w : World} {size n : Nat} {v : Value} {cs : List Value} (h : RowC w v size n cs) : ∃ p n c, v = .slice p n c := by
  rcases h.2 with h1 | ⟨g, cap, h1, _⟩
  · exact ⟨_, _, _, h1.1⟩
  · exact ⟨_, _, _, h1⟩
theorem RowC.nil (w : World) (size : Nat) : RowC w (.slice none 0 0) size 0 [] := ⟨by simp, .inl ⟨rfl, rfl⟩⟩
/-- An item's cells; a mark's. -/
def It.cells : It → List Value
  | .put x => x.cells ++ [.bool false, .string ⟨#[]⟩]
  | .far x nm => x.cells ++ [.bool true, .string nm]
theorem It.cells_len (it : It) : it.cells.length = 8 := by cases it <;> rfl
def markC (e : List UInt8 × Int) : List Value := [.string ⟨e.1.toArray⟩, .int .i64 e.2]
theorem markC_len (e : List UInt8 × Int) : (markC e).length = 2 := rfl
def ItemsAt (w : World) (v : Value) (L : List It) : Prop := RowC w v 8 L.length (L.flatMap It.cells)
def MarksAt (w : World) (v : Value) (M : List (List UInt8 × Int)) : Prop := RowC w v 2 M.length (M.flatMap markC)
theorem look_append (A B : List (List UInt8 × Int)) (nm : List UInt8) (h : look A nm = none) : look (A ++ B) nm = look B nm := by
  unfold look at *
  rw [List.find?_append]
  cases hf : A.find? (fun e => e.1 == nm) with
  | none => simp
  | some e => rw [hf] at h; cases h
theorem take_get {α : Type} (l : List α) (k : Nat) (x : α) (h : l[k]? = some x) : l.take (k + 1) = l.take k ++ [x] ∧ l = l.take k ++ (x :: l.drop (k + 1)) := by
  have hlt : k < l.length := by
    rcases Nat.lt_or_ge k l.length with h1 | h1
    · exact h1
    · rw [List.getElem?_eq_none h1] at h; cases h
  rw [List.getElem?_eq_getElem hlt] at h
  cases h
  exact ⟨List.take_succ_eq_append_getElem hlt, by rw [← List.drop_eq_getElem_cons hlt, List.take_append_drop]⟩
theorem look_hit {M : List (List UInt8 × Int)} {k : Nat} {e : List UInt8 × Int} {nm : List UInt8} (h : look (M.take k) nm = none) (hk : M[k]? = some e) (he : e.1 = nm) : look M nm = some e.2 := by
  rw [(take_get M k e hk).2, look_append _ _ _ h]
  simp [look, he]
theorem look_miss {M : List (List UInt8 × Int)} {k : Nat} {e : List UInt8 × Int} {nm : List UInt8} (h : look (M.take k) nm = none) (hk : M[k]? = some e) (he : e.1 ≠ nm) : look (M.take (k + 1)) nm = none := by
  rw [(take_get M k e hk).1, look_append _ _ _ h]
  simp [look, he]
theorem mk_toList (b : ByteArray) : (⟨b.data.toList.toArray⟩ : ByteArray) = b := by cases b; simp
set_option maxRecDepth 100000 in
set_option maxHeartbeats 1000000 in
theorem rat_any (w : World) (lv mv : Value) (M : List (List UInt8 × Int)) (hM : MarksAt w mv M) (nm : ByteArray) (hl : M.length ≤ maxLen) :
    Calls Tryd.prog 31 #[.agg #[lv, mv], .string nm] w fun e w' => e = .returned (.tuple #[.int .i64 (atN M nm), .int .i64 (atE M nm)]) ∧ Below w.heap.size w w' := by
  unfold maxLen at hl
  have H0 := ahid (show atN M nm = (look M nm.data.toList).getD 0 ∧ atE M nm = if (look M nm.data.toList).isSome = true then 0 else 7 from ⟨rfl, rfl⟩)
  rcases hM.2 with ⟨rfl, h0⟩ | ⟨g, cap, rfl, h1, h2, h3, h4⟩
  · obtain rfl : M = [] := List.eq_nil_of_length_eq_zero h0
    clear hM h0 hl
    go_enter Tryd.func31, Tryd.ntmps31
    go_wp2_with fail
    refine wp_loop_rounds 1 ?_
    rw [rounds_succ]
    go_wp2_with fail
    go_ret2
    exact ⟨rfl, (Below.refl _ _).alloc (Nat.le_refl _) _⟩
  · have HM := ahid hM
    have HC := ahid h4
    have hz : g ≠ w.heap.size := by omega
    clear hM h4
    go_enter Tryd.func31, Tryd.ntmps31
    go_wp2_with fail
    go_loop [6] (fun i => ∃ k : Nat, k ≤ M.length ∧ i = .int .i64 k ∧ look (M.take k) nm.data.toList = none) (fun i => M.length - (intOf i).toNat)
    case atStart => exact ⟨0, Nat.zero_le _, rfl, rfl⟩
    case round =>
      obtain ⟨k, hk, rfl, hlk⟩ := hrel
      have HL := ahid hlk
      clear hlk
      by_cases hlt : k < M.length
      · obtain ⟨e, he⟩ : ∃ e, M[k]? = some e := ⟨_, List.getElem?_eq_getElem hlt⟩
        have hkM : (k : Int) < M.length := by omega
        have c0 : (w.alloc (.cells #[lv, .slice (some ⟨g, 0, none⟩) M.length cap] 33)).cell? ⟨g, k * 2, none⟩ = some (.string ⟨e.1.toArray⟩) := Lib.cell?_alloc_some _ (HC.out (k * 2 + 0) _ (by rw [flat_get markC 2 markC_len M k 0 e he (by omega)]; rfl))
        have c1 : (w.alloc (.cells #[lv, .slice (some ⟨g, 0, none⟩) M.length cap] 33)).cell? ⟨g, k * 2 + 1, none⟩ = some (.int .i64 e.2) := Lib.cell?_alloc_some _ (HC.out (k * 2 + 1) _ (by rw [flat_get markC 2 markC_len M k 1 e he (by omega)]; rfl))
        by_cases heq : e.1 = nm.data.toList
        · have HK := ahid (look_hit HL.out he heq)
          have hs : (⟨e.1.toArray⟩ : ByteArray) = nm := by rw [heq]
          rw [hs] at c0
          clear hs heq he
          go_wp2_with fail
          go_ret2
          exact ⟨by rw [H0.out.1, H0.out.2, HK.out]; rfl, (Below.refl _ _).alloc (Nat.le_refl _) _⟩
        · have HK := ahid (look_miss HL.out he heq)
          have hb : ((⟨e.1.toArray⟩ : ByteArray).toList == nm.toList) = false := by
            rw [ByteArray.toList_eq, ByteArray.toList_eq]; simpa using heq
          clear heq he
          generalize (⟨e.1.toArray⟩ : ByteArray) = nm2 at c0 hb
          go_wp2_with fail
          go_round
          case rel => exact ⟨k + 1, by omega, by go_num, HK.out⟩
          case measure => simp [intOf]; omega
      · obtain rfl : k = M.length := by omega
        have hkM : ¬ ((M.length : Int) < M.length) := by omega
        have hlk := HL.out
        rw [List.take_length] at hlk
        have HK := ahid hlk
        clear hlk
        go_wp2_with fail
        go_ret2
        exact ⟨by rw [H0.out.1, H0.out.2, HK.out]; rfl, (Below.refl _ _).alloc (Nat.le_refl _) _⟩
end Go.Proofs.YtimhpohlaagbpaaDoor
