/- A program that runs, as plain data: what each step does. No function of the program is walked here. -/
import Derived.Test.YtdefooailcbnlaaG01
import Derived.Test.YtdefooailcbnlaaG23
namespace Go.Proofs.Ytdefooailcbnlaa
open Go.RowKit
set_option linter.unusedVariables false
/-- A call: of which function; where it stands; its registers. -/
structure Fr where
  f : Nat
  b : Nat
  i : Nat
  regs : List Int
/-- A model: its heap, what it printed, its threads' frames (the innermost last), the current thread, the choices left, its stop. -/
structure Mdl where
  heap : List Int
  out : List Int
  thr : List (List Fr)
  cur : Nat
  ch : List Int
  kind : Int
  v : Int
def regAt (r : List Int) (k : Int) : Int := r.getD k.toNat 0
def insOf (p : Prg) (x : Fr) : Option Insx := (p.funcs[x.f]?).bind fun f => (f.blocks[x.b]?).bind fun b => b.ins[x.i]?
def regsN (p : Prg) (f : Nat) : Nat := ((p.funcs[f]?).map fun x => x.regs.toNat).getD 0
def frameOf (p : Prg) (f : Nat) (args : List Int) : Fr := ⟨f, 0, 0, args ++ List.replicate (regsN p f - args.length) 0⟩
/-- The threads that have frames. -/
def live (t : List (List Fr)) : List Nat := (List.range t.length).filter fun i => !((t[i]?).getD []).isEmpty
def choose (s : Mdl) : Mdl := { s with cur := (live s.thr).getD ((s.ch.headD 0).toNat % (live s.thr).length) 0, ch := s.ch.tail }
def put (s : Mdl) (l : List Fr) : Mdl := { s with thr := s.thr.set s.cur l }
def fault (s : Mdl) (why : Int) : Mdl := { s with kind := 2, v := why }
def Fr.next (f : Fr) : Fr := { f with i := f.i + 1 }
def Fr.wr (f : Fr) (d w : Int) : Fr := { f with regs := f.regs.set d.toNat w }
def Fr.to (f : Fr) (b : Int) : Fr := { f with b := b.toNat, i := 0 }
/-- What an instruction's return does: a is the value, up are the frames that are left. -/
def retS (p : Prg) (s : Mdl) (up : List Fr) (a : Int) : Mdl :=
  match up.getLast? with
  | some g => put s (up.dropLast ++ [((g.wr (((insOf p g).map (·.d)).getD 0) a)).next])
  | none => if s.cur = 0 then { put s [] with kind := 1, v := a } else choose (put s [])
/-- What an instruction does: up are the frames but the innermost one, f. -/
def actS (p : Prg) (s : Mdl) (up : List Fr) (f : Fr) (x : Insx) : Mdl :=
  let a := regAt f.regs x.a
  let b := regAt f.regs x.b
  if x.op = 0 then put s (up ++ [f.next.wr x.d x.n])
  else if x.op = 1 then (if doB x.n.toNat b = true then put s (up ++ [f.next.wr x.d (doW x.n.toNat a b)]) else fault s 1)
  else if x.op = 2 then put s (up ++ [f.next.wr x.d a])
  else if x.op = 3 then (if a.toNat < s.heap.length then put s (up ++ [f.next.wr x.d (s.heap.getD a.toNat 0)]) else fault s 2)
  else if x.op = 4 then (if a.toNat < s.heap.length then put { s with heap := s.heap.set a.toNat b } (up ++ [f.next]) else fault s 2)
  else if x.op = 5 then put s (up ++ [f, frameOf p x.f.toNat (x.args.map (regAt f.regs))])
  else if x.op = 6 then put { s with out := s.out ++ [a] } (up ++ [f.next])
  else if x.op = 7 then choose (put s (up ++ [f.next]))
  else if x.op = 8 then put s (up ++ [f.to x.l1])
  else if x.op = 9 then put s (up ++ [f.to (if a = 0 then x.l2 else x.l1)])
  else retS p s up a
/-- A step. -/
def step (p : Prg) (s : Mdl) : Mdl :=
  match s.thr[s.cur]? with
  | none => s
  | some l => match l.getLast? with
    | none => s
    | some f => match insOf p f with
      | none => s
      | some x => actS p s l.dropLast f x
/-- Steps, at most so many, and how many. -/
def run (p : Prg) : Nat → Mdl → Mdl
  | 0, s => s
  | n + 1, s => if s.kind = 0 then run p n (step p s) else s
def ran (p : Prg) : Nat → Mdl → Nat
  | 0, _ => 0
  | n + 1, s => if s.kind = 0 then ran p n (step p s) + 1 else 0
/-- A new model. -/
def newS (p : Prg) (ch : List Int) : Mdl := ⟨List.replicate p.heap.toNat 0, [], p.threads.map fun t => [frameOf p t.toNat []], 0, ch, 0, 0⟩
theorem run_one (p : Prg) (n : Nat) (s : Mdl) : run p (n + 1) s = if s.kind = 0 then run p n (step p s) else s := rfl
theorem ran_one (p : Prg) (n : Nat) (s : Mdl) : ran p (n + 1) s = if s.kind = 0 then ran p n (step p s) + 1 else 0 := rfl
theorem run_stop (p : Prg) (n : Nat) (s : Mdl) (h : s.kind ≠ 0) : run p n s = s ∧ ran p n s = 0 := by
  cases n with
  | zero => exact ⟨rfl, rfl⟩
  | succ n => rw [run_one, ran_one, if_neg h, if_neg h]; exact ⟨rfl, rfl⟩
theorem run_add (p : Prg) : ∀ (n k : Nat) (s : Mdl), run p (n + k) s = run p k (run p n s)
  | 0, k, s => by rw [Nat.zero_add]; rfl
  | n + 1, k, s => by
    rw [show n + 1 + k = (n + k) + 1 by omega, run_one, run_one]
    split
    · exact run_add p n k _
    · rename_i h
      rw [(run_stop p k s h).1]
theorem ran_add (p : Prg) : ∀ (n k : Nat) (s : Mdl), ran p (n + k) s = ran p n s + ran p k (run p n s)
  | 0, k, s => by rw [Nat.zero_add, show ran p 0 s = 0 from rfl, Nat.zero_add]; rfl
  | n + 1, k, s => by
    rw [show n + 1 + k = (n + k) + 1 by omega, ran_one, ran_one, run_one]
    split
    · rw [ran_add p n k]; omega
    · rename_i h
      rw [(run_stop p k s h).2]
theorem ran_le (p : Prg) : ∀ (n : Nat) (s : Mdl), ran p n s ≤ n
  | 0, _ => Nat.le_refl _
  | n + 1, s => by
    rw [ran_one]
    split
    · have := ran_le p n (step p s); omega
    · omega
/-- One step more. -/
theorem run_succ (p : Prg) (n : Nat) (s : Mdl) : run p (n + 1) s = if (run p n s).kind = 0 then step p (run p n s) else run p n s := by
  rw [run_add p n 1 s, run_one]
  rfl
theorem ran_succ (p : Prg) (n : Nat) (s : Mdl) : ran p (n + 1) s = if (run p n s).kind = 0 then ran p n s + 1 else ran p n s := by
  rw [ran_add p n 1 s, ran_one]
  split <;> rfl
theorem ran_of_run (p : Prg) : ∀ (n : Nat) (s : Mdl), (run p n s).kind = 0 → ran p n s = n
  | 0, _, _ => rfl
  | n + 1, s, h => by
    rw [run_one] at h
    rw [ran_one]
    split at h
    · rename_i h0
      rw [if_pos h0, ran_of_run p n _ h]
    · exact absurd h ‹_›
end Go.Proofs.Ytdefooailcbnlaa
