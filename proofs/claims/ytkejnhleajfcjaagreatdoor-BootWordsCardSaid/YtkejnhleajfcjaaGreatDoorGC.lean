/- Several texts in one: AsmNew, AsmFar, AsmAdd, AsmApp, AsmPutFar, AsmPutLaw, AsmPut. -/
import Derived.Test.YtkejnhleajfcjaaGreatDoorGA
import Derived.Test.YtkejnhleajfcjaaGreatDoorGB
import Derived.OneCell
import Derived.ArgAppend
import Derived.Laws.AppendOwn
import Derived.Lib.SliceRun
/- Walks of the package asm: New; what a function value makes. -/
namespace Go.Proofs.YtkejnhleajfcjaaGreatDoor
open Go.RowKit Go.Maps
set_option linter.unusedVariables false
set_option linter.unusedSimpArgs false
theorem anew_any (w : World) :
    Calls Tryz.prog 53 #[] w fun e w' => ∃ p m, e = .returned (.pointer (some ⟨p, 0, none⟩)) ∧ w.heap.size ≤ p ∧ w.heap.size ≤ m ∧ AsmAt w' p (.slice none 0 0) m (fun _ => False) [] [] ∧ Below w.heap.size w w' := by
  have hmm := @run_makeMap Tryz.prog
  go_enter Tryz.func53, Tryz.ntmps53
  go_wp2
  go_ret
  refine ⟨w.heap.size + 1, w.heap.size, rfl, by omega, by omega, ⟨?_, ⟨[], ⟨rfl, .inl ⟨rfl, rfl⟩⟩, rfl, fun i v it hv => by simp at hv⟩, ⟨.map [], ?_, MarkD.nil⟩, ⟨by omega, by simp [Value.ownBlock], by simp [Value.ownBlock]⟩, fun k hk => hk.elim⟩, ?_⟩
  · have h := (MapKept.heap_alloc (w.alloc (.map #[] 0)) (.cells #[.slice none 0 0, .map (some w.heap.size)] 218)).1
    rw [show (w.alloc (.map #[] 0)).heap.size = w.heap.size + 1 by simp] at h
    exact h
  · exact (World.ownsMap_made w _ _ _).alloc _
  · exact ((Below.refl _ _).alloc (Nat.le_refl _) _).alloc (by simp) _
/-- What was put: its word. -/
theorem aput1_any (w : World) (K : Nat → Prop) (v : Value) (x : Ix) (h : CloAt w K v (.put x)) (at' : Int) (mv : Value) (c : Nat) (hv : v = .func (.func 130) #[] #[.pointer (some ⟨c, 0, none⟩)]) (hc : w.cell? ⟨c, 0, none⟩ = some (.int .u32 (encS x))) :
    Calls Tryz.prog 130 #[.int .i64 at', mv, .pointer (some ⟨c, 0, none⟩)] w fun e w' => e = .returned (.tuple #[.int .u32 (encS x), .int .i64 0]) ∧ w = w' := by
  clear h hv
  generalize encS x = n at *
  go_enter Tryz.func130, Tryz.ntmps130
  go_wp2
  go_ret2
  exact ⟨rfl, rfl⟩
end Go.Proofs.YtkejnhleajfcjaaGreatDoor
/- Walks of the package asm: what a function value of far makes. -/
namespace Go.Proofs.YtkejnhleajfcjaaGreatDoor
open Go.RowKit Go.Maps
set_option linter.unusedVariables false
set_option linter.unusedSimpArgs false
/-- An instruction that goes d far: word, answer. -/
def farW (x : Ix) (d : Int) : Int := if mayP { x with imm := d } ∧ -2147483648 ≤ d ∧ d < 2147483648 then encS { x with imm := d } else 0
def farE (x : Ix) (d : Int) : Int := if mayP { x with imm := d } ∧ -2147483648 ≤ d ∧ d < 2147483648 then 0 else 50
theorem aret2 {k l : IntKind} {a b c d : Int} (h : a = b) (g : c = d) : Ending.returned (.tuple #[.int k a, .int l c]) = .returned (.tuple #[.int k b, .int l d]) := by rw [h, g]
theorem i32w (d : Int) : (-2147483648 ≤ wrap32 d ∧ wrap32 d < 2147483648) ∧ (wrap32 d = d ↔ -2147483648 ≤ d ∧ d < 2147483648) := by
  unfold wrap32
  exact ⟨⟨by omega, by omega⟩, fun h => by omega, fun h => by omega⟩
theorem afar1_lost (w : World) (p m : Nat) (sv : Value) (K : Nat → Prop) (L : List It) (M : List (List UInt8 × Int)) (h : AsmAt w p sv m K L M) (at' : Int) (nm : ByteArray) (hs : nm.size ≤ maxLen) (c d : Nat) (hc : w.cell? ⟨c, 0, none⟩ = some (.string nm)) (hl : look M nm.data.toList = none) :
    Calls Tryz.prog 299 #[.int .i64 at', .map (some m), .pointer (some ⟨c, 0, none⟩), .pointer (some ⟨d, 0, none⟩)] w fun e w' => e = .returned (.tuple #[.int .u32 0, .int .i64 7]) ∧ w = w' := by
  have hk := h.lookup nm hs
  rw [hl] at hk
  simp only [Option.getD_none, Option.isSome_none] at hk
  clear h
  go_enter Tryz.func299, Tryz.ntmps299
  go_wp2_with fail
  go_ret2
  exact ⟨rfl, rfl⟩
set_option maxRecDepth 100000 in
set_option maxHeartbeats 1000000 in
theorem afar1_there (w : World) (ht : Tab w) (p m : Nat) (sv : Value) (K : Nat → Prop) (L : List It) (M : List (List UInt8 × Int)) (h : AsmAt w p sv m K L M) (at' : Int) (nm : ByteArray) (hs : nm.size ≤ maxLen) (c d : Nat) (hc : w.cell? ⟨c, 0, none⟩ = some (.string nm))
    (x : Ix) (hx : x.bd) (hd : ∀ (i : Nat) (u : Value), x.agg.cells[i]? = some u → w.cell? ⟨d, i, none⟩ = some u) (to : Int) (hl : look M nm.data.toList = some to) (hwb : -9223372036854775808 ≤ to - at' ∧ to - at' ≤ 9223372036854775807) :
    Calls Tryz.prog 299 #[.int .i64 at', .map (some m), .pointer (some ⟨c, 0, none⟩), .pointer (some ⟨d, 0, none⟩)] w fun e w' => e = .returned (.tuple #[.int .u32 (farW x (to - at')), .int .i64 (farE x (to - at'))]) ∧ Below w.heap.size w w' := by
  have hk := h.lookup nm hs
  rw [hl] at hk
  simp only [Option.getD_some, Option.isSome_some] at hk
  have d0 := hd 0 _ rfl
  have d1 := hd 1 _ rfl
  have d2 := hd 2 _ rfl
  have d3 := hd 3 _ rfl
  have d4 := hd 4 _ rfl
  have d5 := hd 5 _ rfl
  obtain ⟨op, rd, rs1, rs2, is, imm⟩ := x
  have HX := ahid hx
  have hw : IntKind.i64.wrap (to - at') = to - at' := IntWalk.i64_in _ (by omega)
  have hw64 : wrap64 (to - at') = to - at' := by unfold wrap64; omega
  clear hwb
  have HT := ahid ht
  clear h hd hl hx ht
  go_enter Tryz.func299, Tryz.ntmps299
  go_wp2_with fail
  generalize hq : wrap32 (to - at') = q
  have hq2 := i32w (to - at')
  rw [hq] at hq2
  have hb2 : Below w.heap.size w (w.alloc (.cells #[.int .u8 op, .int .u8 rd, .int .u8 rs1, .int .u8 rs2, .bool is, .int .i32 q] 108)) := (Below.refl _ _).alloc (Nat.le_refl _) _
  have hy : (Ix.mk op rd rs1 rs2 is q).bd := ⟨HX.out.1, HX.out.2.1, HX.out.2.2.1, HX.out.2.2.2.1, hq2.1⟩
  have hE := encode_any ⟨op, rd, rs1, rs2, is, q⟩ hy _ (HT.out.keep hb2)
  have cq : (w.alloc (.cells #[.int .u8 op, .int .u8 rd, .int .u8 rs1, .int .u8 rs2, .bool is, .int .i32 q] 108)).cell? ⟨w.heap.size, 5, none⟩ = some (.int .i32 q) := by simp [go_sem]
  have HB2 := ahid hb2
  have HQ := ahid hq2
  clear hq2
  clear hb2 hy hq d0 d1 d2 d3 d4 d5 hk hc
  generalize w.alloc (.cells #[.int .u8 op, .int .u8 rd, .int .u8 rs1, .int .u8 rs2, .bool is, .int .i32 q] 108) = w2 at *
  refine hE.mono ?_
  rintro e w3 ⟨rfl, bl⟩
  have cq3 := (bl.cell (p := ⟨w.heap.size, 5, none⟩) (World.block_lt_of_cell? _ _ cq)).trans cq
  have HB3 := ahid (HB2.out.trans (bl.mono HB2.out.size))
  clear bl hE cq HB2
  have hq64 : wrap64 q = q := by have := HQ.out.1; unfold wrap64; omega
  by_cases hm : mayP ⟨op, rd, rs1, rs2, is, q⟩
  · have he : encE ⟨op, rd, rs1, rs2, is, q⟩ = 0 := if_pos hm
    rw [he]
    by_cases hqD : q = to - at'
    · have hfw : encS ⟨op, rd, rs1, rs2, is, q⟩ = farW ⟨op, rd, rs1, rs2, is, imm⟩ (to - at') := by
        unfold farW; rw [if_pos ⟨hqD ▸ hm, HQ.out.2.1 hqD⟩, hqD]
      have hfe : (0 : Int) = farE ⟨op, rd, rs1, rs2, is, imm⟩ (to - at') := by
        unfold farE; rw [if_pos ⟨hqD ▸ hm, HQ.out.2.1 hqD⟩]
      have HF := ahid (And.intro hfw hfe)
      clear hfw hfe hm he
      generalize encS ⟨op, rd, rs1, rs2, is, q⟩ = W at *
      have hb : (q != to - at') = false := by simpa using hqD
      clear hqD
      go_wp2_with fail
      go_ret2
      exact ⟨aret2 HF.out.1 HF.out.2, HB3.out⟩
    · have hn : ¬ (mayP { (Ix.mk op rd rs1 rs2 is imm) with imm := to - at' } ∧ -2147483648 ≤ to - at' ∧ to - at' < 2147483648) := fun h => hqD (HQ.out.2.2 h.2)
      have hfw : (0 : Int) = farW ⟨op, rd, rs1, rs2, is, imm⟩ (to - at') := by unfold farW; rw [if_neg hn]
      have hfe : (50 : Int) = farE ⟨op, rd, rs1, rs2, is, imm⟩ (to - at') := by unfold farE; rw [if_neg hn]
      have HF := ahid (And.intro hfw hfe)
      have hb2 : (q != to - at') = true := by simpa using hqD
      have hb : (q == to - at') = false := by simpa using hqD
      clear hfw hfe hm he hn
      generalize encS ⟨op, rd, rs1, rs2, is, q⟩ = W at *
      go_wp2_with fail
      go_ret2
      exact ⟨aret2 HF.out.1 HF.out.2, HB3.out⟩
  · have he : encE ⟨op, rd, rs1, rs2, is, q⟩ = 2 := if_neg hm
    rw [he]
    have hn : ¬ (mayP { (Ix.mk op rd rs1 rs2 is imm) with imm := to - at' } ∧ -2147483648 ≤ to - at' ∧ to - at' < 2147483648) := fun h => by
      have := HQ.out.2.2 h.2
      exact hm (this ▸ h.1)
    have hfw : (0 : Int) = farW ⟨op, rd, rs1, rs2, is, imm⟩ (to - at') := by unfold farW; rw [if_neg hn]
    have hfe : (50 : Int) = farE ⟨op, rd, rs1, rs2, is, imm⟩ (to - at') := by unfold farE; rw [if_neg hn]
    have HF := ahid (And.intro hfw hfe)
    clear hfw hfe hm he hn
    generalize encS ⟨op, rd, rs1, rs2, is, q⟩ = W at *
    go_wp2_with fail
    go_ret2
    exact ⟨aret2 HF.out.1 HF.out.2, HB3.out⟩
end Go.Proofs.YtkejnhleajfcjaaGreatDoor
/- A list to which function values were added. No function of the program is walked here. -/
namespace Go.Proofs.YtkejnhleajfcjaaGreatDoor
open Go.RowKit Go.Maps
set_option linter.unusedVariables false
theorem aobj_setCell {w : World} {g i : Nat} {c : Array Value} {t : TypeId} {fz : Nat × Nat} (h : w.heap[g]? = some (.cells c t fz)) (v : Value) :
    (w.setCell ⟨g, i, none⟩ v).heap[g]? = some (.cells (c.setIfInBounds i v) t fz) := by
  simp [World.setCell, Array.getElem?_modify, h]
theorem AsmAt.add {w w' : World} {p m : Nat} {sv v' : Value} {K K2 : Nat → Prop} {L L2 : List It} {M : List (List UInt8 × Int)} {vs new : List Value} (h : AsmAt w p sv m K L M) (g : w.grownBy w' sv.ownBlock)
    (hr : w'.ownsRow 0 231 1 v' (L.length + L2.length) (vs ++ new)) (hpl : v'.ownBlock = sv.ownBlock ∨ ∀ k, v'.ownBlock = some k → w.heap.size ≤ k) (hlen : vs.length = L.length)
    (hvs : ∀ (i : Nat) (v : Value) (it : It), vs[i]? = some v → L[i]? = some it → CloAt w K v it) (hl2 : new.length = L2.length) (hnew : ∀ (i : Nat) (v : Value) (it : It), new[i]? = some v → L2[i]? = some it → CloAt w K2 v it)
    (hk2 : ∀ k, K2 k → k < w.heap.size ∧ k ≠ p ∧ sv.ownBlock ≠ some k ∧ k ≠ m) (hk : ∀ k, k < w.heap.size → K k → K2 k) :
    AsmAt (w'.setCell ⟨p, 0, none⟩ v') p v' m K2 (L ++ L2) M ∧ Only (Own p sv m) w (w'.setCell ⟨p, 0, none⟩ v') := by
  have on : Only (fun k => sv.ownBlock = some k) w w' := (Only.refl _ w).grown g (fun k hk _ => hk.symm ▸ rfl)
  have on2 : Only (Own p sv m) w (w'.setCell ⟨p, 0, none⟩ v') := (on.mono (fun k _ hk => .inr (.inl hk))).setCell (.inl rfl) _
  have on3 : Only (fun k => k = p ∨ sv.ownBlock = some k) w (w'.setCell ⟨p, 0, none⟩ v') := (on.mono (fun k _ hk => .inr hk)).setCell (.inl rfl) _
  refine ⟨?_, on2⟩
  obtain ⟨h1, _, ⟨D, ⟨es, cl, hb, F, hz, hD⟩, h6⟩, h7, h8⟩ := h
  have hp := lt_of_block h1
  have hm := lt_of_block hb
  have np : v'.ownBlock ≠ some p := by
    rcases hpl with e | e
    · rw [e]; exact h7.2.1
    · intro e2; have := e p e2; omega
  have nm : v'.ownBlock ≠ some m := by
    rcases hpl with e | e
    · rw [e]; exact h7.2.2
    · intro e2; have := e m e2; omega
  refine ⟨?_, ⟨vs ++ new, ?_, by rw [List.length_append, List.length_append, hlen, hl2], ?_⟩, ⟨D, ⟨es, cl, on3.obj hb ?_, F, hz, hD⟩, h6⟩, ⟨h7.1, np, nm⟩, ?_⟩
  · have := aobj_setCell (i := 0) (on.obj h1 h7.2.1) v'
    rw [this]; rfl
  · rw [List.length_append]
    exact ownsRow_setCell_other hr np v'
  · intro i v it hv hi
    by_cases hlt : i < vs.length
    · rw [List.getElem?_append_left hlt] at hv
      rw [List.getElem?_append_left (by omega)] at hi
      exact (hvs i v it hv hi).keep on3 (fun k hk => by
        have := h8 k hk
        rintro (e | e)
        · exact this.1 e
        · exact this.2.1 e) hk
    · rw [List.getElem?_append_right (by omega)] at hv
      rw [List.getElem?_append_right (by omega), ← hlen] at hi
      exact (hnew _ v it hv hi).keep on3 (fun k hk => by
        have := hk2 k hk
        rintro (e | e)
        · exact this.2.1 e
        · exact this.2.2.1 e) (fun _ _ h => h)
  · rintro (e | e)
    · exact h7.1 e.symm
    · exact h7.2.2 e
  · intro k hk
    obtain ⟨a1, a2, a3, a4⟩ := hk2 k hk
    refine ⟨a2, ?_, a4⟩
    rcases hpl with e | e
    · rw [e]; exact a3
    · intro e2; have := e k e2; omega
/-- What an addition leaves. -/
def AddOk (w : World) (p : Nat) (sv : Value) (m : Nat) (K : Nat → Prop) (L : List It) (M : List (List UInt8 × Int)) (L2 : List It) (w' : World) : Prop :=
  ∃ v' K2, AsmAt w' p v' m K2 (L ++ L2) M ∧ Only (Own p sv m) w w' ∧ (∀ k, k < w.heap.size → Own p v' m k → Own p sv m k) ∧ (∀ k, k < w.heap.size → K2 k → K k)
end Go.Proofs.YtkejnhleajfcjaaGreatDoor
/- append onto a slice of one's own, of which one wants to know where it lies then: where it lay, or in a new block. -/
namespace Go.Proofs.YtkejnhleajfcjaaGreatDoor
open Go

set_option linter.unusedVariables false
variable {P : Program} (w : World)
theorem run_append_place (t ty e : TypeId) (i : TypeInfo) (z : Value) (bytes : Nat) (ht : P.underlying t = some (.slice e)) (hi : P.info? e = some i) (hz : i.zero = some z)
    (hsize : i.size = 1) (hby : i.bytes = bytes) (hzs : z.cells.size = 1) (v : Value) (n : Nat) (xs : List Value) (hown : w.ownsRow 0 e 1 v n xs)
    (a : Addr) (m c : Nat) (news : List Value) (hl : news.length = m * 1) (hnews : ∀ j u, news[j]? = some u → w.cell? (a.add j) = some u) (h1 : ∀ u ∈ news, u.oneCell' = true)
    (h63 : n + m ≤ maxLen) (hbytes : (n + m) * bytes ≤ 140737488355328) :
    ∃ v' w', (Builtin.append_ #[t, t] ty #[v, .slice (some a) m c]).run P w = .ok v' w' ∧ w'.ownsRow 0 e 1 v' (n + m) (xs ++ news) ∧ w.grownBy w' v.ownBlock ∧
      (v'.ownBlock = v.ownBlock ∨ ∀ k, v'.ownBlock = some k → w.heap.size ≤ k) := by
  obtain ⟨v', w', hrun, r1, r2, r3⟩ := run_append_own w 0 t ty e i z 1 bytes ht hi hz hsize hby hzs (by decide) v n xs hown a m c news hl hnews h1 h63 hbytes (Nat.zero_le _)
  refine ⟨v', w', hrun, r1, r2, ?_⟩
  rcases hown.2 with ⟨rfl, rfl⟩ | ⟨g, cap, cur, rfl, hb, hg, hn, hcap, hsz, hxs⟩
  · obtain rfl : xs = [] := List.eq_nil_of_length_eq_zero (by simpa using hown.1)
    obtain ⟨v2, w2, hrun2, s1, _, _⟩ := run_append_own w w.heap.size t ty e i z 1 bytes ht hi hz hsize hby hzs (by decide) (.slice none 0 0) 0 [] (World.ownsRow_nil w _ e 1) a m c news hl hnews h1 h63 hbytes (Nat.le_refl _)
    rw [hrun] at hrun2
    cases hrun2
    exact .inr fun k hk => (s1.lt k hk).1
  · by_cases hr : n + m ≤ cap
    · have hrun2 := run_append_room_cells (P := P) w t ty e i ht hi g 0 n cap a m c news (by rw [hsize]; exact hl) hnews h1 hr (fun j hj => by
        simp only [hsize, Nat.zero_add, Nat.mul_one] at *
        simp only [World.cell?, hg]
        have : n + j < cur.size := by omega
        simp [this]) (fun j hj => by simp [World.frozen?, hg])
      rw [hrun] at hrun2
      cases hrun2
      exact .inl rfl
    · obtain ⟨v2, w2, hrun2, s1, _⟩ := run_append_arg_grows (P := P) w t ty e i z 1 bytes ht hi hz hsize hby hzs (by decide) ⟨g, 0, none⟩ n cap xs hown.1 (hown.cells rfl) a m c news hl hnews (by omega) h63 hbytes
      rw [hrun] at hrun2
      cases hrun2
      exact .inr fun k hk => (s1.lt k hk).1
/-- The same at the operation. -/
theorem wpList_append_place {ops : Array Oper} {rest : List Oper} {o : Oper} {a : Act} {Q : Exit → Act → World → Prop} (hgd : o.guard = none) (s x : Operand) (t : TypeId)
    (ho : o.op = .call { callee := .builtin .append, args := #[s, x], argTypes := #[t, t] }) (e : TypeId) (i : TypeInfo) (z : Value) (bytes : Nat) (ht : P.underlying t = some (.slice e)) (hi : P.info? e = some i) (hz : i.zero = some z)
    (hsize : i.size = 1) (hby : i.bytes = bytes) (hzs : z.cells.size = 1) (v : Value) (n : Nat) (xs : List Value) (hs : a.eval s = v) (hown : w.ownsRow 0 e 1 v n xs)
    (ad : Addr) (m c : Nat) (news : List Value) (hx : a.eval x = .slice (some ad) m c) (hl : news.length = m * 1) (hnews : ∀ j u, news[j]? = some u → w.cell? (ad.add j) = some u) (h1 : ∀ u ∈ news, u.oneCell' = true)
    (h63 : n + m ≤ maxLen) (hbytes : (n + m) * bytes ≤ 140737488355328)
    (h : ∀ v' w', w'.ownsRow 0 e 1 v' (n + m) (xs ++ news) → w.grownBy w' v.ownBlock → (v'.ownBlock = v.ownBlock ∨ ∀ k, v'.ownBlock = some k → w.heap.size ≤ k) → wpList P ops Q rest (a.put o.dst v') w') :
    wpList P ops Q (o :: rest) a w := by
  refine wpList_plain hgd fun K hK' => ?_
  obtain ⟨v', w', hrun, r1, r2, r3⟩ := run_append_place (P := P) w t o.type e i z bytes ht hi hz hsize hby hzs v n xs hown ad m c news hl hnews h1 h63 hbytes
  unfold Oper.wp
  simp [execOp, ho, resolve, invoke, builtin, hs, hx, hrun, Result.andThen]
  exact hK' _ _ (h v' w' r1 r2 r3)
end Go.Proofs.YtkejnhleajfcjaaGreatDoor
/- Walks of the package asm: far. -/
namespace Go.Proofs.YtkejnhleajfcjaaGreatDoor
open Go.RowKit Go.Maps
set_option linter.unusedVariables false
set_option linter.unusedSimpArgs false
theorem afar_none (w : World) (a : Value) (x : Ix) (nm : ByteArray) (hn : ∀ W, Below w.heap.size w W → Calls Tryz.prog 128 #[a] W fun e w' => e = .returned (.bool true) ∧ W = w') :
    Calls Tryz.prog 269 #[a, x.agg, .string nm] w fun e w' => e = .returned (.int .i64 1) ∧ Below w.heap.size w w' := by
  go_enter Tryz.func269, Tryz.ntmps269
  go_wp2_with fail
  refine (hn _ (((Below.refl _ _).alloc (Nat.le_refl _) _).alloc (by simp) _)).mono ?_
  rintro e w' ⟨rfl, rfl⟩
  go_wp2_with fail
  go_ret
  exact ⟨rfl, ((Below.refl _ _).alloc (Nat.le_refl _) _).alloc (by simp) _⟩
theorem infow : (Tryz.prog.info? 231).map (fun i => (i.zero, i.size, i.bytes)) = some (some .nilFunc, 1, 8) := by kernel_rfl
set_option maxRecDepth 100000 in
set_option maxHeartbeats 1000000 in
theorem afar_put (w : World) (ht : Tab w) (p m : Nat) (sv : Value) (K : Nat → Prop) (L : List It) (M : List (List UInt8 × Int)) (h : AsmAt w p sv m K L M) (x : Ix) (hx : x.bd) (hm : mayP x) (nm : ByteArray) (hs : nm.size ≤ maxLen) (hL : L.length < 4294967296) :
    Calls Tryz.prog 269 #[.pointer (some ⟨p, 0, none⟩), x.agg, .string nm] w fun e w' => e = .returned (.int .i64 0) ∧ AddOk w p sv m K L M [.far x nm] w' := by
  obtain ⟨c0, c1, f0, f1⟩ := h.cells
  have hE := fun W hW => encode_any x hx W hW
  rw [show encE x = 0 from if_pos hm] at hE
  obtain ⟨hpb, hmb, hsb⟩ := h.blocks
  have HBL := ahid (And.intro hpb (And.intro hmb hsb))
  clear hpb hmb hsb
  have hKK : ∀ k, (fun k => K k ∧ k < w.heap.size) k → K k := fun k hk => hk.1
  have hKL : ∀ k, (fun k => K k ∧ k < w.heap.size) k → k < w.heap.size := fun k hk => hk.2
  replace h := h.trim
  generalize (fun k => K k ∧ k < w.heap.size) = K0 at h hKK hKL
  have HKK := ahid (And.intro hKK hKL)
  clear hKK hKL
  have H := ahid h
  have HT := ahid ht
  clear h ht
  have HX := ahid hx
  have HM := ahid hm
  have HS := ahid hs
  clear hx hm hs
  obtain ⟨op, rd, rs1, rs2, is, imm⟩ := x
  go_enter Tryz.func269, Tryz.ntmps269
  go_wp2_with fail
  have hb1 : Below w.heap.size w ((w.alloc (.cells #[.int .u8 op, .int .u8 rd, .int .u8 rs1, .int .u8 rs2, .bool is, .int .i32 imm] 108)).alloc (.cells #[.string nm] 9)) := ((Below.refl _ _).alloc (Nat.le_refl _) _).alloc (by simp) _
  have hsz1 : ((w.alloc (.cells #[.int .u8 op, .int .u8 rd, .int .u8 rs1, .int .u8 rs2, .bool is, .int .i32 imm] 108)).alloc (.cells #[.string nm] 9)).heap.size = w.heap.size + 2 := by simp
  have hn1 : ((w.alloc (.cells #[.int .u8 op, .int .u8 rd, .int .u8 rs1, .int .u8 rs2, .bool is, .int .i32 imm] 108)).alloc (.cells #[.string nm] 9)).cell? ⟨w.heap.size + 1, 0, none⟩ = some (.string nm) := by simp [go_sem]
  have hx1 : ((w.alloc (.cells #[.int .u8 op, .int .u8 rd, .int .u8 rs1, .int .u8 rs2, .bool is, .int .i32 imm] 108)).alloc (.cells #[.string nm] 9)).heap[w.heap.size]? = some (.cells #[.int .u8 op, .int .u8 rd, .int .u8 rs1, .int .u8 rs2, .bool is, .int .i32 imm] 108 (0, 0)) := by
    rw [Below.heap_alloc _ _ _ (by simp)]; exact (MapKept.heap_alloc w _).1
  generalize (w.alloc (.cells #[.int .u8 op, .int .u8 rd, .int .u8 rs1, .int .u8 rs2, .bool is, .int .i32 imm] 108)).alloc (.cells #[.string nm] 9) = w1 at *
  have HA1 := ahid (H.out.keep (Only.of_below (S := fun _ => False) hb1) (fun _ _ h => h) (fun _ _ h => h))
  have HT1 := ahid (HT.out.keep hb1)
  clear c0 c1 f0 f1
  obtain ⟨c0, c1, f0, f1⟩ := HA1.out.cells
  have d0 : w1.cell? ⟨w.heap.size, 0, none⟩ = some (.int .u8 op) := by simp [World.cell?, hx1]
  have d1 : w1.cell? ⟨w.heap.size, 1, none⟩ = some (.int .u8 rd) := by simp [World.cell?, hx1]
  have d2 : w1.cell? ⟨w.heap.size, 2, none⟩ = some (.int .u8 rs1) := by simp [World.cell?, hx1]
  have d3 : w1.cell? ⟨w.heap.size, 3, none⟩ = some (.int .u8 rs2) := by simp [World.cell?, hx1]
  have d4 : w1.cell? ⟨w.heap.size, 4, none⟩ = some (.bool is) := by simp [World.cell?, hx1]
  have d5 : w1.cell? ⟨w.heap.size, 5, none⟩ = some (.int .i32 imm) := by simp [World.cell?, hx1]
  have HB1 := ahid hb1
  have HX1 := ahid hx1
  have HN1 := ahid hn1
  have HSZ := ahid hsz1
  clear hb1 hx1 hn1 hsz1
  refine (anone_made w1 p m c1).mono ?_
  rintro e w' ⟨rfl, rfl⟩
  go_wp2_with fail
  refine (hE _ HT1.out).mono ?_
  rintro e w2 ⟨rfl, bl⟩
  have HA2 := ahid (HA1.out.keep (Only.of_below (S := fun _ => False) bl) (fun _ _ h => h) (fun _ _ h => h))
  have HB2 := ahid (HB1.out.trans (bl.mono HB1.out.size))
  have hX2 : w2.heap[w.heap.size]? = some (.cells #[.int .u8 op, .int .u8 rd, .int .u8 rs1, .int .u8 rs2, .bool is, .int .i32 imm] 108 (0, 0)) := (bl.block _ (lt_of_block HX1.out)).trans HX1.out
  have hN2 := (bl.cell (p := ⟨w.heap.size + 1, 0, none⟩) (World.block_lt_of_cell? _ _ HN1.out)).trans HN1.out
  have hsz2 : w.heap.size + 2 ≤ w2.heap.size := by have := HSZ.out; have := bl.size; omega
  clear bl c0 c1 f0 f1 d0 d1 d2 d3 d4 d5 HA1 HT1 HB1 HX1 HN1 HSZ hE
  have HX2 := ahid hX2
  have HN2 := ahid hN2
  clear hX2 hN2
  have HSZ2 := ahid hsz2
  clear hsz2
  have HF2 : Hid ((w2.alloc (.cells #[.func (.func 299) #[] #[.pointer (some ⟨w.heap.size + 1, 0, none⟩), .pointer (some ⟨w.heap.size, 0, none⟩)]] 231)).cell? ⟨w.heap.size + 1, 0, none⟩ = some (.string nm) ∧ ∀ (i : Nat) (u : Value), (Ix.mk op rd rs1 rs2 is imm).agg.cells[i]? = some u → (w2.alloc (.cells #[.func (.func 299) #[] #[.pointer (some ⟨w.heap.size + 1, 0, none⟩), .pointer (some ⟨w.heap.size, 0, none⟩)]] 231)).cell? ⟨w.heap.size, i, none⟩ = some u) := by
    refine ahid ⟨Lib.cell?_alloc_some _ HN2.out, fun i u hu => Lib.cell?_alloc_some _ ?_⟩
    simp only [World.cell?, HX2.out]
    simpa [Value.cells] using hu
  obtain ⟨c0, c1, f0, f1⟩ := HA2.out.cells
  obtain ⟨vs, hown, hlen, hvs⟩ := HA2.out.row
  have HV := ahid hvs
  clear hvs
  obtain ⟨i0, hi, hz0, hz1, hz2⟩ := info_parts infow
  go_wp2_with (first | (at_builtin; refine wpList_append_place _ rfl _ _ 216 rfl 231 i0 _ 8 Tryz.underlying216 hi hz0 hz1 hz2 rfl sv L.length vs rfl (hown.alloc _) ⟨w2.heap.size, 0, none⟩ 1 1 [.func (.func 299) #[] #[.pointer (some ⟨w.heap.size + 1, 0, none⟩), .pointer (some ⟨w.heap.size, 0, none⟩)]] rfl rfl (cell_one_new _ _ _) (by simp [Value.oneCell']) (by unfold maxLen; omega) (by omega) ?_; intro v' w3 hown3 hgrow3 hpl3; obtain ⟨g3, cap3, rfl⟩ : ∃ g3 cap3, v' = .slice (some ⟨g3, 0, none⟩) (L.length + 1) cap3 := hown3.2.elim (fun h => absurd h.2 (by omega)) (fun ⟨g, c, _, e, _⟩ => ⟨g, c, e⟩); have o3 : Only (fun k => sv.ownBlock = some k) w2 w3 := ((Only.refl _ w2).alloc _).grown hgrow3 (fun k hk _ => hk.symm ▸ rfl); have c3 := (o3.cell (p := ⟨p, 0, none⟩) (lt_of_block HA2.out.ptr) HA2.out.ne.2.1).trans c0; have f3 := (World.frozen?_of_block (a := ⟨p, 0, none⟩) (o3.block p (lt_of_block HA2.out.ptr) HA2.out.ne.2.1)).trans f0))
  go_ret
  refine ⟨rfl, ?_⟩
  have HA3 := HA2.out.keep ((Only.refl (fun _ => False) w2).alloc (.cells #[.func (.func 299) #[] #[.pointer (some ⟨w.heap.size + 1, 0, none⟩), .pointer (some ⟨w.heap.size, 0, none⟩)]] 231)) (fun _ _ h => h) (fun _ _ h => h)
  have hsz2 := HSZ2.out
  have hfar := HF2.out
  have hadd := HA3.add (L2 := [.far ⟨op, rd, rs1, rs2, is, imm⟩ nm]) (K2 := fun k => K0 k ∨ k = w.heap.size ∨ k = w.heap.size + 1) hgrow3 hown3 (hpl3) hlen
    (fun i v it hv hi => (HV.out i v it hv hi).keep ((Only.refl (fun _ => False) w2).alloc _) (fun _ _ h => h) (fun _ _ h => h)) rfl
    (fun i v it hv hi => by
      match i, hv, hi with
      | 0, hv, hi =>
        simp only [List.getElem?_cons_zero, Option.some.injEq] at hv hi
        subst hv; subst hi
        exact ⟨w.heap.size + 1, w.heap.size, rfl, .inr (.inr rfl), .inr (.inl rfl), hfar.1, hfar.2, HS.out, HX.out⟩)
    (fun k hk => by
      have hp := HBL.out
      rcases hk with hk | rfl | rfl
      · have := HKK.out.2 k hk
        have h8 := HA2.out.apart k hk
        exact ⟨by simp; omega, h8⟩
      · exact ⟨by simp; omega, by omega, fun e => by have := hp.2.2 _ e; omega, by omega⟩
      · exact ⟨by simp; omega, by omega, fun e => by have := hp.2.2 _ e; omega, by omega⟩)
    (fun k _ hk => .inl hk)
  refine ⟨_, _, hadd.1, ?_, ?_, ?_⟩
  · exact (Only.of_below (HB2.out.trans ((Below.refl _ _).alloc HB2.out.size _))).fresh hadd.2 (fun _ _ h => h)
  · intro k hk ho
    rcases ho with h | h | h
    · exact .inl h
    · rcases hpl3 with e | e
      · exact .inr (.inl (e ▸ h))
      · have := e k h; simp at this; omega
    · exact .inr (.inr h)
  · intro k hk ho
    rcases ho with h | h | h
    · exact HKK.out.1 k h
    · omega
    · omega
end Go.Proofs.YtkejnhleajfcjaaGreatDoor
/- Put of the package asm: what its loop keeps. No function of the program is walked here. -/
namespace Go.Proofs.YtkejnhleajfcjaaGreatDoor
open Go.RowKit Go.Maps
set_option linter.unusedVariables false
set_option linter.unusedSimpArgs false
/-- An instruction that lies at a place. -/
structure InsAt (w : World) (b o : Nat) (x : Ix) : Prop where
  c0 : w.cell? ⟨b, o, none⟩ = some (.int .u8 x.op)
  c1 : w.cell? ⟨b, o + 1, none⟩ = some (.int .u8 x.rd)
  c2 : w.cell? ⟨b, o + 2, none⟩ = some (.int .u8 x.rs1)
  c3 : w.cell? ⟨b, o + 3, none⟩ = some (.int .u8 x.rs2)
  c4 : w.cell? ⟨b, o + 4, none⟩ = some (.bool x.is)
  c5 : w.cell? ⟨b, o + 5, none⟩ = some (.int .i32 x.imm)
  bd : x.bd
theorem InsAt.lt {w : World} {b o : Nat} {x : Ix} (h : InsAt w b o x) : b < w.heap.size := World.block_lt_of_cell? _ _ h.c0
theorem InsAt.keep {S : Nat → Prop} {w w' : World} {b o : Nat} {x : Ix} (h : InsAt w b o x) (hb : Only S w w') (hs : ¬ S b) : InsAt w' b o x :=
  have hl := h.lt
  ⟨(hb.cell (p := ⟨b, o, none⟩) hl hs).trans h.c0, (hb.cell (p := ⟨b, o + 1, none⟩) hl hs).trans h.c1, (hb.cell (p := ⟨b, o + 2, none⟩) hl hs).trans h.c2, (hb.cell (p := ⟨b, o + 3, none⟩) hl hs).trans h.c3, (hb.cell (p := ⟨b, o + 4, none⟩) hl hs).trans h.c4, (hb.cell (p := ⟨b, o + 5, none⟩) hl hs).trans h.c5, h.bd⟩
theorem InsAt.keepb {w w' : World} {b o : Nat} {x : Ix} (h : InsAt w b o x) (hb : Below w.heap.size w w') : InsAt w' b o x := h.keep (Only.of_below (S := fun _ => False) hb) id
/-- A slice of instructions, as it is read. -/
def InsIn (w : World) (v : Value) (l : List Ix) : Prop :=
  l.length ≤ maxLen ∧ ∃ p c b o, v = .slice p l.length c ∧ (0 < l.length → p = some ⟨b, o, none⟩) ∧ ∀ k x, l[k]? = some x → InsAt w b (o + k * 6) x
theorem InsIn.keepb {w w' : World} {v : Value} {l : List Ix} (h : InsIn w v l) (hb : Below w.heap.size w w') : InsIn w' v l := by
  obtain ⟨h1, p, c, b, o, h2, h3, h4⟩ := h
  exact ⟨h1, p, c, b, o, h2, h3, fun k x hx => (h4 k x hx).keepb hb⟩
/-- The loop of Put, when k instructions were made whole. -/
structure PutAt (w : World) (l : List Ix) (mv : Value) (k : Nat) (wr : World) : Prop where
  ex : ∃ (vs : List Value) (C : Nat → Prop), wr.ownsRow 0 231 1 mv k vs ∧ vs.length = k ∧ (∀ (i : Nat) (v : Value) (x : Ix), vs[i]? = some v → l[i]? = some x → CloAt wr C v (.put x)) ∧ (∀ i, C i → w.heap.size ≤ i ∧ i < wr.heap.size ∧ mv.ownBlock ≠ some i)
  fresh : ∀ i, mv.ownBlock = some i → w.heap.size ≤ i
  may : ∀ (i : Nat) (x : Ix), i < k → l[i]? = some x → mayP x
  below : Below w.heap.size w wr
theorem PutAt.start (w : World) (l : List Ix) : PutAt w l (.slice none 0 0) 0 w :=
  ⟨⟨[], fun _ => False, World.ownsRow_nil w 0 _ 1, rfl, fun i v x hv => by simp at hv, fun i h => h.elim⟩, fun i h => by simp [Value.ownBlock] at h, fun i x h => by omega, Below.refl _ _⟩
/-- One more. -/
theorem PutAt.more {w wr w2 w3 : World} {l : List Ix} {mv v' : Value} {k : Nat} {x : Ix} (h : PutAt w l mv k wr) (hx : l[k]? = some x) (hm : mayP x) (hb : Below wr.heap.size wr w2) (c : Nat) (hc1 : wr.heap.size ≤ c) (hc2 : c < w2.heap.size) (hc3 : w2.cell? ⟨c, 0, none⟩ = some (.int .u32 (encS x)))
    {vs : List Value} {C : Nat → Prop} (hown : wr.ownsRow 0 231 1 mv k vs) (hlen : vs.length = k) (hvs : ∀ (i : Nat) (v : Value) (x : Ix), vs[i]? = some v → l[i]? = some x → CloAt wr C v (.put x)) (hC : ∀ i, C i → w.heap.size ≤ i ∧ i < wr.heap.size ∧ mv.ownBlock ≠ some i)
    (h3 : w3.ownsRow 0 231 1 v' (k + 1) (vs ++ [.func (.func 130) #[] #[.pointer (some ⟨c, 0, none⟩)]])) (hg : w2.grownBy w3 mv.ownBlock) (hp : v'.ownBlock = mv.ownBlock ∨ ∀ i, v'.ownBlock = some i → w2.heap.size ≤ i) : PutAt w l v' (k + 1) w3 := by
  have hwr := h.below.size
  have o2 : Only (fun i => mv.ownBlock = some i) wr w3 := (Only.of_below hb).grown hg (fun i hi _ => hi.symm ▸ rfl)
  have o3 : Only (fun i => mv.ownBlock = some i) w2 w3 := (Only.refl _ _).grown hg (fun i hi _ => hi.symm ▸ rfl)
  have hne : mv.ownBlock ≠ some c := fun e => by have := (hown.lt c e).2; omega
  refine ⟨⟨_, fun i => C i ∨ i = c, h3, by simp [hlen], ?_, ?_⟩, ?_, ?_, ?_⟩
  · intro i v y hv hy
    by_cases hi : i < vs.length
    · rw [List.getElem?_append_left hi] at hv
      exact (hvs i v y hv hy).keep o2 (fun j hj e => (hC j hj).2.2 e) (fun j _ hj => .inl hj)
    · rw [List.getElem?_append_right (by omega)] at hv
      have hik : i - vs.length = 0 := by
        rcases Nat.eq_zero_or_pos (i - vs.length) with e | e
        · exact e
        · rw [List.getElem?_eq_none (by simp; omega)] at hv; cases hv
      rw [hik] at hv
      simp only [List.getElem?_cons_zero, Option.some.injEq] at hv
      obtain rfl : i = k := by omega
      rw [hx] at hy
      cases hy
      exact ⟨c, hv.symm, .inr rfl, (o3.cell (p := ⟨c, 0, none⟩) hc2 hne).trans hc3⟩
  · have hs3 := hg.size
    have hs2 := hb.size
    rintro i (hi | rfl)
    · obtain ⟨a1, a2, a3⟩ := hC i hi
      refine ⟨a1, by omega, ?_⟩
      rcases hp with e | e
      · rw [e]; exact a3
      · intro e2; have := e i e2; omega
    · refine ⟨by omega, by omega, ?_⟩
      rcases hp with e | e
      · rw [e]; exact hne
      · intro e2; have := e i e2; omega
  · intro i hi
    have hs2 := hb.size
    rcases hp with e | e
    · exact h.fresh i (e ▸ hi)
    · have := e i hi; omega
  · intro i y hi hy
    by_cases hik : i < k
    · exact h.may i y hik hy
    · obtain rfl : i = k := by omega
      rw [hx] at hy; cases hy; exact hm
  · exact o2.below (B := w.heap.size) hwr (fun i hi e => by have := h.fresh i e; omega) |> h.below.trans
/-- What Put leaves. -/
def PutOk (w : World) (p : Nat) (sv : Value) (m : Nat) (K : Nat → Prop) (L : List It) (M : List (List UInt8 × Int)) (l : List Ix) (e : Ending) (w' : World) : Prop :=
  if ∀ x ∈ l, mayP x then e = .returned (.int .i64 0) ∧ AddOk w p sv m K L M (l.map .put) w' else e = .returned (.int .i64 2) ∧ Below w.heap.size w w'
theorem AddOk.of_below {w w1 w' : World} {p m : Nat} {sv : Value} {K : Nat → Prop} {L L2 : List It} {M : List (List UInt8 × Int)} (hb : Below w.heap.size w w1) (h : AddOk w1 p sv m K L M L2 w') : AddOk w p sv m K L M L2 w' := by
  obtain ⟨v', K2, h1, h2, h3, h4⟩ := h
  exact ⟨v', K2, h1, (Only.of_below hb).fresh h2 (fun _ _ h => h), fun k hk => h3 k (Nat.lt_of_lt_of_le hk hb.size), fun k hk => h4 k (Nat.lt_of_lt_of_le hk hb.size)⟩
/-- The end of Put: all are made whole, and there is one at least. -/
theorem PutAt.fin {w wr w3 : World} {l : List Ix} {mv v' : Value} {p m : Nat} {sv : Value} {K : Nat → Prop} {L : List It} {M : List (List UInt8 × Int)} (hA : AsmAt w p sv m K L M) (h : PutAt w l mv l.length wr) {vs : List Value} {C : Nat → Prop}
    (hlen : vs.length = l.length) (hvs : ∀ (i : Nat) (v : Value) (x : Ix), vs[i]? = some v → l[i]? = some x → CloAt wr C v (.put x)) (hC : ∀ i, C i → w.heap.size ≤ i ∧ i < wr.heap.size ∧ mv.ownBlock ≠ some i)
    {us : List Value} (hul : us.length = L.length) (hus : ∀ (i : Nat) (v : Value) (it : It), us[i]? = some v → L[i]? = some it → CloAt wr (fun k => K k ∧ k < w.heap.size) v it)
    (hr : w3.ownsRow 0 231 1 v' (L.length + l.length) (us ++ vs)) (g : wr.grownBy w3 sv.ownBlock) (hpl : v'.ownBlock = sv.ownBlock ∨ ∀ k, v'.ownBlock = some k → wr.heap.size ≤ k) :
    AddOk w p sv m K L M (l.map .put) (w3.setCell ⟨p, 0, none⟩ v') := by
  have hbl := hA.blocks
  have hA2 := (hA.trim).keep (Only.of_below (S := fun _ => False) h.below) (fun _ _ h => h) (fun _ _ h => h)
  have hwr := h.below.size
  have hadd := hA2.add (L2 := l.map .put) (K2 := fun k => (K k ∧ k < w.heap.size) ∨ C k) (vs := us) (new := vs) g (by rw [List.length_map]; exact hr) hpl hul hus (by rw [List.length_map]; exact hlen)
    (fun i v it hv hi => by
      rw [List.getElem?_map] at hi
      cases hli : l[i]? with
      | none => rw [hli] at hi; cases hi
      | some x =>
        rw [hli] at hi
        cases hi
        exact (hvs i v x hv hli).keep (Only.refl (fun _ => False) wr) (fun _ _ h => h) (fun k _ hk => .inr hk))
    (fun k hk => by
      rcases hk with hk | hk
      · exact ⟨by omega, hA.apart k hk.1⟩
      · obtain ⟨a1, a2, a3⟩ := hC k hk
        exact ⟨a2, by omega, fun e => by have := hbl.2.2 k e; omega, by omega⟩)
    (fun k _ hk => .inl hk)
  refine ⟨v', _, hadd.1, ?_, ?_, ?_⟩
  · exact (Only.of_below h.below).fresh hadd.2 (fun _ _ h => h)
  · intro k hk ho
    rcases ho with h | h | h
    · exact .inl h
    · rcases hpl with e | e
      · exact .inr (.inl (e ▸ h))
      · have := e k h; omega
    · exact .inr (.inr h)
  · intro k hk ho
    rcases ho with h | h
    · exact h.1
    · have := (hC k h).1; omega
end Go.Proofs.YtkejnhleajfcjaaGreatDoor
/- Walks of the package asm: Put. -/
namespace Go.Proofs.YtkejnhleajfcjaaGreatDoor
open Go.RowKit Go.Maps
set_option linter.unusedVariables false
set_option linter.unusedSimpArgs false
theorem cell_one_new2 (w : World) (A : Obj) (v : Value) (T : TypeId) : ∀ (j : Nat) u, [v][j]? = some u → ((w.alloc A).alloc (.cells #[v] T)).cell? ((⟨w.heap.size + 1, 0, none⟩ : Addr).add j) = some u := by
  have h := cell_one_new (w.alloc A) v T
  rw [show (w.alloc A).heap.size = w.heap.size + 1 by simp] at h
  exact h
theorem PutOk.yes {w w' : World} {p m : Nat} {sv : Value} {K : Nat → Prop} {L : List It} {M : List (List UInt8 × Int)} {l : List Ix} (h : ∀ x ∈ l, mayP x) (h2 : AddOk w p sv m K L M (l.map .put) w') : PutOk w p sv m K L M l (.returned (.int .i64 0)) w' := by
  unfold PutOk; rw [if_pos h]; exact ⟨rfl, h2⟩
theorem aput_none (w : World) (a v : Value) (hn : ∀ W, Below w.heap.size w W → Calls Tryz.prog 128 #[a] W fun e w' => e = .returned (.bool true) ∧ W = w') :
    Calls Tryz.prog 54 #[a, v] w fun e w' => e = .returned (.int .i64 1) ∧ w = w' := by
  go_enter Tryz.func54, Tryz.ntmps54
  go_wp2_with fail
  refine (hn _ (Below.refl _ _)).mono ?_
  rintro e w' ⟨rfl, rfl⟩
  go_wp2_with fail
  go_ret
  exact ⟨rfl, rfl⟩
set_option maxRecDepth 100000 in
set_option maxHeartbeats 2000000 in
theorem aput_any (w : World) (ht : Tab w) (p m : Nat) (sv : Value) (K : Nat → Prop) (L : List It) (M : List (List UInt8 × Int)) (h : AsmAt w p sv m K L M) (v : Value) (l : List Ix) (hl : InsIn w v l) (hL : L.length + l.length < 4294967296) :
    Calls Tryz.prog 54 #[.pointer (some ⟨p, 0, none⟩), v] w (PutOk w p sv m K L M l) := by
  obtain ⟨c0, c1, f0, f1⟩ := h.cells
  obtain ⟨hlm, pv, cv, b, o, rfl, hpv, hins⟩ := hl
  have HN := ahid (anone_made w p m c1)
  have H := ahid h
  have HT := ahid ht
  have HI := ahid hins
  have HP := ahid hpv
  clear h ht hins hpv c0 c1 f0 f1
  unfold maxLen at hlm
  obtain ⟨i0, hi, hz0, hz1, hz2⟩ := info_parts infow
  have HII := ahid (And.intro hi (And.intro hz0 (And.intro hz1 hz2)))
  clear hi hz0 hz1 hz2
  have HS := ahid (PutAt.start w l)
  go_enter Tryz.func54, Tryz.ntmps54
  go_wp2_with fail
  refine HN.out.mono ?_
  rintro e w' ⟨rfl, rfl⟩
  go_wp2_with fail
  go_loopw [5, 14] (fun v5 i wr => ∃ (k : Nat) (mv : Value), k ≤ l.length ∧ i = .int .i64 k ∧ mv = v5 ∧ PutAt w l mv k wr) (fun _ i _ => l.length - (intOf i).toNat)
  case atStart => exact ⟨0, _, Nat.zero_le _, rfl, rfl, HS.out⟩
  case round =>
    obtain ⟨k, mv, hk, rfl, rfl, HR⟩ := hrel
    replace HR := ahid HR
    by_cases hlt : k < l.length
    · obtain ⟨x, hx⟩ : ∃ x, l[k]? = some x := ⟨_, List.getElem?_eq_getElem hlt⟩
      obtain rfl := HP.out (by omega)
      have hxi := (HI.out k x hx).keepb HR.out.below
      have c0 := hxi.c0
      have c1 := hxi.c1
      have c2 := hxi.c2
      have c3 := hxi.c3
      have c4 := hxi.c4
      have c5 := hxi.c5
      have HX := ahid hx
      have HB := ahid hxi.bd
      clear hx hxi
      have hE := ahid (fun W hW => encode_any x HB.out W hW)
      have hkn : (k : Int) < l.length := by omega
      obtain ⟨op, rd, rs1, rs2, is, imm⟩ := x
      go_wp2_with fail
      have hb1 : Below wr.heap.size wr (wr.alloc (.cells #[.int .u8 op, .int .u8 rd, .int .u8 rs1, .int .u8 rs2, .bool is, .int .i32 imm] 108)) := (Below.refl _ _).alloc (Nat.le_refl _) _
      have hsz1 : (wr.alloc (.cells #[.int .u8 op, .int .u8 rd, .int .u8 rs1, .int .u8 rs2, .bool is, .int .i32 imm] 108)).heap.size = wr.heap.size + 1 := by simp
      have HB1 := ahid (And.intro hb1 hsz1)
      clear hb1 hsz1 c0 c1 c2 c3 c4 c5
      generalize wr.alloc (.cells #[.int .u8 op, .int .u8 rd, .int .u8 rs1, .int .u8 rs2, .bool is, .int .i32 imm] 108) = w1 at *
      refine (hE.out w1 ((HT.out.keep HR.out.below).keep (HB1.out.1.mono HR.out.below.size |> fun b => by exact HB1.out.1))).mono ?_
      rintro e w2 ⟨rfl, bl⟩
      have HB2 := ahid (And.intro (HB1.out.1.trans (bl.mono HB1.out.1.size)) (by have := bl.size; have := HB1.out.2; omega : wr.heap.size < w2.heap.size))
      clear bl HB1
      by_cases hm : mayP ⟨op, rd, rs1, rs2, is, imm⟩
      · have he : encE ⟨op, rd, rs1, rs2, is, imm⟩ = 0 := if_pos hm
        rw [he]
        have HM := ahid hm
        clear he hm
        obtain ⟨vs, C, hown, hlen, hvs, hC⟩ := HR.out.ex
        have HV := ahid (And.intro hown (And.intro hlen (And.intro hvs hC)))
        clear hown hlen hvs hC
        have hown2 := HV.out.1.keepw (Only.of_below (S := fun _ => False) HB2.out.1) (fun _ _ h => h)
        generalize hq : encS ⟨op, rd, rs1, rs2, is, imm⟩ = q
        have HQ := ahid hq
        clear hq
        have hi := HII.out.1
        go_wp2_with (first | (at_builtin; refine wpList_append_place _ rfl _ _ 216 rfl 231 i0 _ 8 Tryz.underlying216 hi HII.out.2.1 HII.out.2.2.1 HII.out.2.2.2 rfl mv k vs rfl ((hown2.alloc _).alloc _) ⟨w2.heap.size + 1, 0, none⟩ 1 1 [.func (.func 130) #[] #[.pointer (some ⟨w2.heap.size, 0, none⟩)]] rfl rfl (cell_one_new2 _ _ _ _) (by simp [Value.oneCell']) (by unfold maxLen; omega) (by omega) ?_; intro v' w3 hown3 hgrow3 hpl3))
        have hb3 : Below wr.heap.size wr ((w2.alloc (.cells #[.int .u32 q] 23)).alloc (.cells #[.func (.func 130) #[] #[.pointer (some ⟨w2.heap.size, 0, none⟩)]] 231)) := (HB2.out.1.alloc (Nat.le_of_lt HB2.out.2) _).alloc (by have := HB2.out.2; simp; omega) _
        have hmore := HR.out.more HX.out HM.out hb3 w2.heap.size (Nat.le_of_lt HB2.out.2) (by simp; omega) (by rw [HQ.out]; simp [go_sem]) HV.out.1 HV.out.2.1 HV.out.2.2.1 HV.out.2.2.2 hown3 hgrow3 hpl3
        go_roundw
        case rel => exact ⟨k + 1, v', by omega, by go_num, rfl, hmore⟩
        case measure => simp [intOf]; omega
      · have he : encE ⟨op, rd, rs1, rs2, is, imm⟩ = 2 := if_neg hm
        rw [he]
        have hbf : Below w.heap.size w w2 := HR.out.below.trans (HB2.out.1.mono HR.out.below.size)
        have hfin : ∀ (o : Obj), PutOk w p sv m K L M l (.returned (.int .i64 2)) (w2.alloc o) := fun o => by
          unfold PutOk
          rw [if_neg (fun h => hm (h _ (List.mem_of_getElem? HX.out)))]
          exact ⟨rfl, hbf.alloc hbf.size _⟩
        have HF := ahid hfin
        clear hfin hbf he hm HR
        generalize encS ⟨op, rd, rs1, rs2, is, imm⟩ = q
        go_wp2_with fail
        go_ret
        exact HF.out _
    · obtain rfl : k = l.length := by omega
      have hkn : ¬ ((l.length : Int) < l.length) := by omega
      have HA := ahid (H.out.keep (Only.of_below (S := fun _ => False) HR.out.below) (fun _ _ h => h) (fun _ _ h => h))
      obtain ⟨c0, c1, f0, f1⟩ := HA.out.cells
      have hall : ∀ x ∈ l, mayP x := fun x hx => by
        obtain ⟨i, hi, he⟩ := List.mem_iff_getElem.1 hx
        exact HR.out.may i x hi (by rw [List.getElem?_eq_getElem hi, he])
      obtain ⟨us, hus1, hus2, hus3⟩ := (H.out.trim.keep (Only.of_below (S := fun _ => False) HR.out.below) (fun _ _ h => h) (fun _ _ h => h)).row
      obtain ⟨vs, C, hown, hlen, hvs, hC⟩ := HR.out.ex
      have hi := HII.out.1
      have HC := ahid hC
      have HV := ahid hvs
      have HL := ahid hall
      have HU := ahid (And.intro hus2 hus3)
      have hor := hown.2
      clear hC hvs hall hus2 hus3
      rcases hor with ⟨rfl, hl0⟩ | ⟨g, cap, cur, rfl, hrest⟩
      · have HL0 := ahid hl0
        clear hl0
        rcases HA.out.slice with ⟨rfl, _⟩ | ⟨gs, caps, rfl, _⟩
        all_goals
          go_wp2_with (first | (at_builtin; refine wpList_append_own_none rfl _ _ 216 rfl 0 231 i0 1 Tryz.underlying216 hi _ L.length us rfl hus1 rfl ?_))
          go_ret
          refine PutOk.yes HL.out ?_
          refine PutAt.fin H.out HR.out hlen HV.out HC.out HU.out.1 HU.out.2 ?_ ⟨rfl, rfl, rfl, Nat.le_refl _, fun _ _ _ => rfl⟩ (.inl rfl)
          obtain rfl : vs = [] := List.eq_nil_of_length_eq_zero (by rw [hlen]; exact HL0.out)
          rw [HL0.out, Nat.add_zero, List.append_nil]
          exact hus1
      · have hcl := hown.cells rfl
        have h1c : ∀ u ∈ vs, u.oneCell' = true := fun u hu => by
          obtain ⟨i, hi, he⟩ := List.mem_iff_getElem.1 hu
          obtain ⟨c, hc, _⟩ := HV.out i u l[i] (by rw [List.getElem?_eq_getElem hi, he]) (List.getElem?_eq_getElem (by omega))
          rw [hc]; simp [Value.oneCell']
        have HCL := ahid (And.intro hcl h1c)
        clear hcl h1c hrest
        go_wp2_with (first | (at_builtin; refine wpList_append_place _ rfl _ _ 216 rfl 231 i0 _ 8 Tryz.underlying216 hi HII.out.2.1 HII.out.2.2.1 HII.out.2.2.2 rfl sv L.length us rfl hus1 ⟨g, 0, none⟩ l.length cap vs rfl (by rw [hlen, Nat.mul_one]) HCL.out.1 HCL.out.2 (by unfold maxLen; omega) (by omega) ?_; intro v' w3 hown3 hgrow3 hpl3; have o3 : Only (fun k => sv.ownBlock = some k) wr w3 := ((Only.refl _ wr)).grown hgrow3 (fun k hk _ => hk.symm ▸ rfl); have c3 := (o3.cell (p := ⟨p, 0, none⟩) (lt_of_block HA.out.ptr) HA.out.ne.2.1).trans c0; have f3 := (World.frozen?_of_block (a := ⟨p, 0, none⟩) (o3.block p (lt_of_block HA.out.ptr) HA.out.ne.2.1)).trans f0; replace hgrow3 := ahid hgrow3; replace hpl3 := ahid hpl3; rcases hown3.2 with ⟨rfl, _⟩ | ⟨g3, cap3, _, rfl, _⟩))
        all_goals
          go_ret
          refine PutOk.yes HL.out ?_
          exact PutAt.fin H.out HR.out hlen HV.out HC.out HU.out.1 HU.out.2 hown3 hgrow3.out hpl3.out
end Go.Proofs.YtkejnhleajfcjaaGreatDoor
