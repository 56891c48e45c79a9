/- Acts on a list: what they leave; the program's acts as one step each. -/
import Derived.Test.YtgicenbjdadakaaDoorAsmRWords
namespace Go.Proofs.YtgicenbjdadakaaDoor
open Go.RowKit Go.Maps
set_option linter.unusedVariables false
set_option linter.unusedSimpArgs false
/-- A list that may have gone on. -/
def StepTo (w : World) (p : Nat) (sv : Value) (m : Nat) (K : Nat → Prop) (L' : List It) (M' : List (List UInt8 × Int)) (w' : World) : Prop :=
  ∃ v' K', AsmAt w' p v' m K' L' M' ∧ Only (Own p sv m) w w' ∧ (∀ k, k < w.heap.size → Own p v' m k → Own p sv m k) ∧ (∀ k, k < w.heap.size → K' k → K k)
theorem StepTo.same {w w' : World} {p m : Nat} {sv : Value} {K : Nat → Prop} {L : List It} {M : List (List UInt8 × Int)} (h : AsmAt w p sv m K L M) (hb : Below w.heap.size w w') : StepTo w p sv m K L M w' :=
  ⟨sv, K, h.keep (Only.of_below (S := fun _ => False) hb) (fun _ _ h => h) (fun _ _ h => h), Only.of_below hb, fun _ _ h => h, fun _ _ h => h⟩
theorem StepTo.of_below {w w1 w' : World} {p m : Nat} {sv : Value} {K : Nat → Prop} {L : List It} {M : List (List UInt8 × Int)} (hb : Below w.heap.size w w1) (h : StepTo w1 p sv m K L M w') : StepTo w p sv m K L M w' := by
  obtain ⟨v', K', h1, h2, h3, h4⟩ := h
  exact ⟨v', K', h1, (Only.of_below hb).fresh h2 (fun _ _ h => h), fun k hk => h3 k (Nat.lt_of_lt_of_le hk hb.size), fun k hk => h4 k (Nat.lt_of_lt_of_le hk hb.size)⟩
def putE (l : List Ix) : Int := if ∀ x ∈ l, mayP x then 0 else 2
def putL (L : List It) (l : List Ix) : List It := if ∀ x ∈ l, mayP x then L ++ l.map .put else L
def jumpE (c : Int) : Int := if c ≤ 6 then 0 else 2
def jumpL (L : List It) (op c : Int) (nm : ByteArray) : List It := if c ≤ 6 then L ++ [.far ⟨op, c, 0, 0, true, 0⟩ nm] else L
theorem put_step {w w' : World} {p m : Nat} {sv : Value} {K : Nat → Prop} {L : List It} {M : List (List UInt8 × Int)} {l : List Ix} {e : Ending} (h : AsmAt w p sv m K L M) (hp : PutOk w p sv m K L M l e w') : e = .returned (.int .i64 (putE l)) ∧ StepTo w p sv m K (putL L l) M w' := by
  unfold PutOk at hp
  unfold putE putL
  by_cases hm : ∀ x ∈ l, mayP x
  · rw [if_pos hm] at hp ⊢
    rw [if_pos hm]
    exact hp
  · rw [if_neg hm] at hp ⊢
    rw [if_neg hm]
    exact ⟨hp.1, StepTo.same h hp.2⟩
theorem far_step {w w' : World} {p m : Nat} {sv : Value} {K : Nat → Prop} {L : List It} {M : List (List UInt8 × Int)} {op c : Int} {nm : ByteArray} {e : Ending} (h : AsmAt w p sv m K L M) (hm : mayP ⟨op, c, 0, 0, true, 0⟩ ↔ c ≤ 6) (hp : FarOk w p sv m K L M ⟨op, c, 0, 0, true, 0⟩ nm e w') :
    e = .returned (.int .i64 (jumpE c)) ∧ StepTo w p sv m K (jumpL L op c nm) M w' := by
  unfold FarOk at hp
  unfold jumpE jumpL
  by_cases hc : c ≤ 6
  · rw [if_pos (hm.2 hc)] at hp
    rw [if_pos hc, if_pos hc]
    exact hp
  · rw [if_neg (fun h => hc (hm.1 h))] at hp
    rw [if_neg hc, if_neg hc]
    exact ⟨hp.1, StepTo.same h hp.2⟩
theorem amark_step (w : World) (p m : Nat) (sv : Value) (K : Nat → Prop) (L : List It) (M : List (List UInt8 × Int)) (h : AsmAt w p sv m K L M) (nm : ByteArray) (hs : nm.size ≤ maxLen) (hM : M.length < maxLen) (hL : L.length < 4294967296) :
    Calls Tryd.prog 14 #[.pointer (some ⟨p, 0, none⟩), .string nm] w fun e w' => e = .returned (.int .i64 (markE M nm)) ∧ StepTo w p sv m K L (markM M nm L.length) w' := by
  unfold markE markM
  cases hl : look M nm.data.toList with
  | none =>
    refine (amark_new w p m sv K L M h nm hs hM (by omega) hl).mono ?_
    rintro e w' ⟨rfl, h1, h2⟩
    exact ⟨rfl, sv, K, h1, h2.mono (fun k _ hk => .inr (.inr hk)), fun _ _ h => h, fun _ _ h => h⟩
  | some n =>
    refine (amark_twice w p m sv K L M h nm hs n hl).mono ?_
    rintro e w' ⟨rfl, rfl⟩
    exact ⟨rfl, StepTo.same h (Below.refl _ _)⟩
/-- An act. -/
structure Actx where
  what : Int
  l : List Ix
  nm : ByteArray
  cond : Int
  wd : Int
def Actx.L (x : Actx) (L : List It) : List It :=
  if x.what % 5 = 0 then putL L x.l else if x.what % 5 = 1 then L else if x.what % 5 = 2 then jumpL L 17 x.cond x.nm else if x.what % 5 = 3 then jumpL L 18 0 x.nm else putL L (partsS x.cond x.wd)
def Actx.M (x : Actx) (L : List It) (M : List (List UInt8 × Int)) : List (List UInt8 × Int) := if x.what % 5 = 1 then markM M x.nm L.length else M
def Actx.bd (x : Actx) : Prop := (0 ≤ x.what ∧ x.what < 256) ∧ (0 ≤ x.cond ∧ x.cond < 256) ∧ (0 ≤ x.wd ∧ x.wd < 4294967296) ∧ x.nm.size ≤ maxLen ∧ x.l.length ≤ 1000
/-- The two lists have the same names. -/
def SameNames (M N : List (List UInt8 × Int)) : Prop := ∀ nm, (look M nm).isSome = (look N nm).isSome
theorem SameNames.mark {M N : List (List UInt8 × Int)} (h : SameNames M N) (nm : ByteArray) (a b : Int) : markE M nm = markE N nm ∧ SameNames (markM M nm a) (markM N nm b) := by
  unfold markE markM
  rw [h nm.data.toList]
  refine ⟨rfl, ?_⟩
  cases hN : (look N nm.data.toList).isSome with
  | true => simpa using h
  | false =>
    simp only [Bool.false_eq_true, if_false]
    intro n2
    rw [look_snoc, look_snoc]
    have := h n2
    cases h1 : look M n2 <;> cases h2 : look N n2 <;> rw [h1, h2] at this <;> simp at this ⊢
    split <;> rfl
theorem InsIn.keepO {S : Nat → Prop} {w w' : World} {v : Value} {l : List Ix} (h : InsIn w v l) (o : Only S w w') (hs : 0 < l.length → ∀ k, v.ownBlock = some k → ¬ S k) : InsIn w' v l := by
  obtain ⟨h1, p, c, b, o', rfl, h3, h4⟩ := h
  refine ⟨h1, p, c, b, o', rfl, h3, fun k x hx => (h4 k x hx).keep o ?_⟩
  have hlt : k < l.length := by
    rcases Nat.lt_or_ge k l.length with h | h
    · exact h
    · rw [List.getElem?_eq_none h] at hx; cases hx
  exact hs (by omega) b (by rw [h3 (by omega)]; rfl)
theorem InsIn.lt {w : World} {v : Value} {l : List Ix} (h : InsIn w v l) : 0 < l.length → ∀ k, v.ownBlock = some k → k < w.heap.size := by
  obtain ⟨h1, p, c, b, o', rfl, h3, h4⟩ := h
  intro h0 k hk
  rw [h3 h0] at hk
  cases hk
  exact (h4 0 l[0] (List.getElem?_eq_getElem h0)).lt
/-- What does leaves: on the program's list, and on the document's. -/
def DoesOk (w : World) (p : Nat) (sv : Value) (m : Nat) (K : Nat → Prop) (x : Actx) (L : List It) (M : List (List UInt8 × Int)) (lv mv : Value) (Lq : List It) (Mq : List (List UInt8 × Int)) (e : Ending) (w' : World) : Prop :=
  ∃ lv' mv' b v' K', e = .returned (.tuple #[.agg #[lv', mv'], .bool b]) ∧ (SameNames M Mq → b = true) ∧ AsmAt w' p v' m K' (x.L L) (x.M L M) ∧ Only (Own p sv m) w w' ∧ (∀ k, k < w.heap.size → Own p v' m k → Own p sv m k) ∧ (∀ k, k < w.heap.size → K' k → K k) ∧
    ItemsAt w' lv' (x.L Lq) ∧ MarksAt w' mv' (x.M Lq Mq) ∧ (∀ k, Own p v' m k → lv'.ownBlock ≠ some k ∧ mv'.ownBlock ≠ some k) ∧
    (∀ k, lv'.ownBlock = some k → lv.ownBlock = some k ∨ w.heap.size ≤ k) ∧ (∀ k, mv'.ownBlock = some k → mv.ownBlock = some k ∨ w.heap.size ≤ k)
end Go.Proofs.YtgicenbjdadakaaDoor
