/- muntinref26.Stub at a list that is none, for every program and thread. -/
import Derived.Test.YtfbbodaapkfbdaaDoorG31
namespace Go.Proofs.YtfbbodaapkfbdaaDoor
open Go.RowKit
set_option linter.unusedVariables false
set_option linter.unusedSimpArgs false
theorem markE_nil (nm : ByteArray) : markE [] nm = 0 := rfl
theorem markM_nil (nm : ByteArray) (n : Int) : markM [] nm n = [(nm.data.toList, n)] := rfl
/-- What the document's stub leaves. -/
def RStubGo (p : Prg) (th : Int) (w : World) (e : Ending) (w' : World) : Prop :=
  ∃ pl nl cl pm nm cm, e = .returned (.tuple #[.agg #[.slice pl nl cl, .slice pm nm cm], .int .i64 (stubE p th [])]) ∧ nl = (stubL p th [] []).length ∧ ItemsAt w' (.slice pl nl cl) (stubL p th [] []) ∧ MarksAt w' (.slice pm nm cm) (stubM p th [] []) ∧ Below w.heap.size w w' ∧ (∀ k, (Value.slice pl nl cl).ownBlock = some k → w.heap.size ≤ k) ∧ ∀ k, (Value.slice pm nm cm).ownBlock = some k → w.heap.size ≤ k
theorem items_len {w : World} {pl : Option Addr} {nl cl : Nat} {L : List It} (h : ItemsAt w (.slice pl nl cl) L) : nl = L.length := by
  rcases h.2 with ⟨h1, h2⟩ | ⟨g, cap, h1, _⟩
  · cases h1; exact h2.symm
  · cases h1; rfl
theorem rstub_no {p : Prg} {th : Int} {w w' : World} {e : Ending} (hs : stubF p th = none) (he : e = .returned (.tuple #[.agg #[.slice none 0 0, .slice none 0 0], .int .i64 2])) (hb : Below w.heap.size w w') : RStubGo p th w e w' := by
  have e1 : stubE p th [] = 2 := by unfold stubE; rw [hs]
  have e2 : stubL p th [] [] = [] := by unfold stubL; rw [hs]
  have e3 : stubM p th [] [] = [] := by unfold stubM; rw [hs]
  refine ⟨none, 0, 0, none, 0, 0, by rw [e1]; exact he, by rw [e2]; rfl, ?_, ?_, hb, fun k hk => (by cases hk), fun k hk => (by cases hk)⟩
  · rw [e2]; exact RowC.nil _ _
  · rw [e3]; exact RowC.nil _ _
theorem rstub_any {w : World} {pv : Value} {p : Prg} (hp : PrgIn w pv p) {th : Int} (hth : I64 th) :
    Calls Tryd.prog 17 #[.agg #[.slice none 0 0, .slice none 0 0], pv, .int .i64 th] w (RStubGo p th w) := by
  obtain ⟨⟨tv, fv, rfl, hthr, hfn⟩, hpb⟩ := hp
  obtain ⟨pt, ct, rfl⟩ := hthr.shape
  obtain ⟨pf, cf, rfl⟩ := hfn.shape
  by_cases h1 : th < 0
  · have e : stubF p th = none := by unfold stubF; rw [if_neg (by omega)]
    exact (rstub_neg h1).mono fun e' w' ⟨he, hb⟩ => rstub_no e he hb
  by_cases h3 : (p.threads.length : Int) ≤ th
  · have e : stubF p th = none := by unfold stubF; rw [if_pos (by omega), List.getElem?_eq_none (by omega)]
    exact (rstub_far (by omega) h3).mono fun e' w' ⟨he, hb⟩ => rstub_no e he hb
  obtain ⟨n, rfl⟩ : ∃ n : Nat, th = n := ⟨th.toNat, by omega⟩
  have hn : n < p.threads.length := by omega
  have hk : p.threads[n]? = some p.threads[n] := List.getElem?_eq_getElem hn
  obtain ⟨bt, ot, rfl, -, -, ht, htb⟩ := hthr.in hk
  rw [Nat.mul_one] at ht
  have e0 : stubF p n = if 0 ≤ p.threads[n] ∧ p.threads[n] < p.funcs.length then some p.threads[n].toNat else none := by
    unfold stubF
    rw [if_pos (by omega)]
    simp only [Int.toNat_natCast, hk]
  generalize p.threads[n] = t at *
  by_cases h4 : t < 0
  · rw [if_neg (by omega)] at e0
    exact (rstub_low rfl hn rfl ht h4).mono fun e' w' ⟨he, hb⟩ => rstub_no e0 he hb
  by_cases h5 : (p.funcs.length : Int) ≤ t
  · rw [if_neg (by omega)] at e0
    exact (rstub_high rfl hn rfl ht (by omega) h5).mono fun e' w' ⟨he, hb⟩ => rstub_no e0 he hb
  obtain ⟨f, rfl⟩ : ∃ f : Nat, t = f := ⟨t.toNat, by omega⟩
  rw [if_pos (by omega), Int.toNat_natCast] at e0
  have hn63 : n < 9223372036854775808 := by unfold I64 at hth; omega
  have hf63 : f < 9223372036854775808 := by unfold I64 at htb; omega
  refine (rstub_new hn hn63 rfl ht (by omega) (M := []) (RowC.nil _ _) (by simp) (markE_nil _) (L := []) (RowC.nil _ _) (by simp) hf63).mono ?_
  rintro e' w' ⟨⟨lv, mv, rfl, hi, hm, hz⟩, hb⟩
  have q1 : stubE p n [] = 0 := by unfold stubE; rw [e0]; rfl
  have q2 : stubL p n [] [] = putL (jumpL [] 18 0 (nameB' (fNameL f))) [stubI n] := by unfold stubL; rw [e0]; simp only [markE_nil, if_true]
  have q3 : stubM p n [] [] = markM [] (nameB' (tNameL n)) 0 := by unfold stubM; rw [e0]; rfl
  obtain ⟨pl, nl, cl, rfl⟩ := hi.shape
  obtain ⟨pm, nm, cm, rfl⟩ := hm.shape
  refine ⟨pl, nl, cl, pm, nm, cm, by rw [q1], ?_, by rw [q2]; exact hi, by rw [q3]; exact hm, hb, (hz ⟨rfl, rfl⟩).1, (hz ⟨rfl, rfl⟩).2⟩
  rw [q2]; exact items_len hi
end Go.Proofs.YtfbbodaapkfbdaaDoor
