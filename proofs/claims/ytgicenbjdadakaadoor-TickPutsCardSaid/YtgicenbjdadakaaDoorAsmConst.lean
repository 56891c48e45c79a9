/- Walks of the package asm: Const. -/
import Derived.Test.YtgicenbjdadakaaDoorAsmJump
namespace Go.Proofs.YtgicenbjdadakaaDoor
open Go.RowKit Go.Maps
set_option linter.unusedVariables false
set_option linter.unusedSimpArgs false
/-- A constant's instructions. -/
def partsS (rd w : Int) : List Ix :=
  if -16384 ≤ sgn w 2147483648 ∧ sgn w 2147483648 < 16384 then [⟨1, rd, 0, 0, true, sgn w 2147483648⟩]
  else if w % 2048 = 0 then [⟨15, rd, 0, 0, true, w / 2048⟩] else [⟨15, rd, 0, 0, true, w / 2048⟩, ⟨7, rd, rd, 0, true, w % 2048⟩]
theorem sgn32 {w : Int} (h0 : 0 ≤ w) (h1 : w < 4294967296) : wrap32 w = sgn w 2147483648 := by unfold wrap32 sgn; split <;> omega
theorem parts_bd {rd w : Int} (r0 : 0 ≤ rd) (r1 : rd < 256) (h0 : 0 ≤ w) (h1 : w < 4294967296) : ∀ x ∈ partsS rd w, x.bd := by
  unfold partsS
  intro x hx
  split at hx
  · simp only [List.mem_cons, List.not_mem_nil, or_false] at hx
    subst hx; unfold Ix.bd; simp only; omega
  · split at hx
    · simp only [List.mem_cons, List.not_mem_nil, or_false] at hx
      subst hx; unfold Ix.bd; simp only; omega
    · simp only [List.mem_cons, List.not_mem_nil, or_false] at hx
      rcases hx with rfl | rfl <;> (unfold Ix.bd; simp only; omega)
theorem parts_len (rd w : Int) : (partsS rd w).length ≤ 2 := by
  unfold partsS; split
  · simp
  · split <;> simp
/-- An instruction's cells. -/
def Ix.cells (x : Ix) : List Value := [.int .u8 x.op, .int .u8 x.rd, .int .u8 x.rs1, .int .u8 x.rs2, .bool x.is, .int .i32 x.imm]
theorem Ix.cells_len (x : Ix) : x.cells.length = 6 := rfl
theorem InsAt.of_cells {w : World} {b o : Nat} {x : Ix} (hx : x.bd) (h : ∀ j u, x.cells[j]? = some u → w.cell? ⟨b, o + j, none⟩ = some u) : InsAt w b o x :=
  ⟨h 0 _ rfl, h 1 _ rfl, h 2 _ rfl, h 3 _ rfl, h 4 _ rfl, h 5 _ rfl, hx⟩
theorem InsIn.of_row {w : World} {p : Nat} {cap : Nat} {l : List Ix} (hb : ∀ x ∈ l, x.bd) (hm : l.length ≤ maxLen) (h : ∀ (j : Nat) u, (l.flatMap Ix.cells)[j]? = some u → w.cell? ⟨p, j, none⟩ = some u) : InsIn w (.slice (some ⟨p, 0, none⟩) l.length cap) l := by
  refine ⟨hm, _, cap, p, 0, rfl, fun _ => rfl, fun k x hx => InsAt.of_cells (hb x (List.mem_of_getElem? hx)) fun j u hu => ?_⟩
  rw [Nat.zero_add]
  refine h _ _ ?_
  have hj : j < 6 := by
    rcases Nat.lt_or_ge j 6 with h | h
    · exact h
    · rw [List.getElem?_eq_none (by rw [Ix.cells_len]; exact h)] at hu; cases hu
  rw [flat_get Ix.cells 6 Ix.cells_len l k j x hx hj]; exact hu
theorem InsIn.of_own {w : World} {B : Nat} {v : Value} {l : List Ix} (hb : ∀ x ∈ l, x.bd) (hm : l.length ≤ maxLen) (h : w.ownsRow B 55 6 v l.length (l.flatMap Ix.cells)) : InsIn w v l := by
  rcases h.2 with ⟨rfl, h0⟩ | ⟨g, cap, cur, rfl, _⟩
  · refine ⟨hm, none, 0, 0, 0, by rw [h0], fun hh => by omega, fun k x hx => ?_⟩
    rw [List.eq_nil_of_length_eq_zero h0] at hx; simp at hx
  · refine InsIn.of_row hb hm fun j u hu => ?_
    have := h.cells rfl j u hu
    rw [addr_add0] at this
    exact this
theorem PutOk.ending {w w' : World} {p m : Nat} {sv : Value} {K : Nat → Prop} {L : List It} {M : List (List UInt8 × Int)} {l : List Ix} {e : Ending} (h : PutOk w p sv m K L M l e w') : ∃ q, e = .returned (.int .i64 q) := by
  unfold PutOk at h; split at h
  · exact ⟨_, h.1⟩
  · exact ⟨_, h.1⟩
theorem PutOk.of_below {w w1 w' : World} {p m : Nat} {sv : Value} {K : Nat → Prop} {L : List It} {M : List (List UInt8 × Int)} {l : List Ix} {e : Ending} (hb : Below w.heap.size w w1) (h : PutOk w1 p sv m K L M l e w') : PutOk w p sv m K L M l e w' := by
  unfold PutOk at h ⊢
  split at h
  · rw [if_pos ‹_›]; exact ⟨h.1, h.2.of_below hb⟩
  · rw [if_neg ‹_›]; exact ⟨h.1, hb.trans (h.2.mono hb.size)⟩
theorem InsIn.one {x : Ix} (hb : ∀ y ∈ [x], y.bd) (w : World) : InsIn (w.alloc (.cells #[.int .u8 x.op, .int .u8 x.rd, .int .u8 x.rs1, .int .u8 x.rs2, .bool x.is, .int .i32 x.imm] 55)) (.slice (some ⟨w.heap.size, 0, none⟩) 1 1) [x] :=
  InsIn.of_row (l := [x]) hb (by simp [maxLen]) fun j u hu => by
    simp only [World.cell?, (MapKept.heap_alloc w _).1]
    simpa [Ix.cells] using hu
theorem infoi : (Tryd.prog.info? 55).map (fun i => (i.zero, i.size, i.bytes)) = some (some (.agg #[.int .u8 0, .int .u8 0, .int .u8 0, .int .u8 0, .bool false, .int .i32 0]), 6, 12) := by kernel_rfl
set_option maxRecDepth 100000 in
set_option maxHeartbeats 1000000 in
theorem aconst_gen (w : World) (a : Value) (rd n : Int) (r0 : 0 ≤ rd) (r1 : rd < 256) (h0 : 0 ≤ n) (h1 : n < 4294967296) (Q : Ending → World → Prop)
    (hQ : ∀ (w1 : World), Below w.heap.size w w1 → ∀ (v : Value), InsIn w1 v (partsS rd n) → Calls Tryd.prog 17 #[a, v] w1 (fun e w' => (∃ q, e = .returned (.int .i64 q)) ∧ Q e w')) :
    Calls Tryd.prog 20 #[a, .int .u8 rd, .int .u32 n] w Q := by
  have hbd := parts_bd r0 r1 h0 h1
  have hsg := sgn32 h0 h1
  have HA := ahid hQ
  clear hQ
  by_cases hs : -16384 ≤ sgn n 2147483648 ∧ sgn n 2147483648 < 16384
  · have hp : partsS rd n = [⟨1, rd, 0, 0, true, sgn n 2147483648⟩] := if_pos hs
    rw [hp] at HA hbd
    have t1 := hs.1
    have t2 := hs.2
    rw [← hsg] at HA hbd t1 t2
    have HB := ahid hbd
    clear hbd hs hp hsg
    go_enter Tryd.func20, Tryd.ntmps20
    go_wp2_with fail
    refine (HA.out _ ((Below.refl _ _).alloc (Nat.le_refl _) _) _ (InsIn.one HB.out w)).mono ?_
    rintro e w' ⟨hx, hh⟩
    obtain ⟨q, rfl⟩ := hx
    have HH := ahid hh
    clear hh
    go_wp2_with fail
    exact HH.out
  · have hand : bits .and .u32 n 2047 = n % 2048 := and_mod 11 2047 (by omega) (by decide) h0 h1
    by_cases hz : n % 2048 = 0
    · have hp : partsS rd n = [⟨15, rd, 0, 0, true, n / 2048⟩] := by unfold partsS; rw [if_neg hs, if_pos hz]
      rw [hp] at HA hbd
      rw [hz] at hand
      rw [← hsg] at hs
      have HB := ahid hbd
      clear hbd hp hsg hz
      by_cases t1 : -16384 ≤ wrap32 n
      · have t2 : ¬ (wrap32 n < 16384) := fun h => hs ⟨t1, h⟩
        clear hs
        go_enter Tryd.func20, Tryd.ntmps20
        go_wp2_with fail
        refine (HA.out _ ((Below.refl _ _).alloc (Nat.le_refl _) _) _ (InsIn.one HB.out w)).mono ?_
        rintro e w' ⟨hx, hh⟩
        obtain ⟨q, rfl⟩ := hx
        have HH := ahid hh
        clear hh
        go_wp2_with fail
        exact HH.out
      · clear hs
        go_enter Tryd.func20, Tryd.ntmps20
        go_wp2_with fail
        refine (HA.out _ ((Below.refl _ _).alloc (Nat.le_refl _) _) _ (InsIn.one HB.out w)).mono ?_
        rintro e w' ⟨hx, hh⟩
        obtain ⟨q, rfl⟩ := hx
        have HH := ahid hh
        clear hh
        go_wp2_with fail
        exact HH.out
    · have hp : partsS rd n = [⟨15, rd, 0, 0, true, n / 2048⟩, ⟨7, rd, rd, 0, true, n % 2048⟩] := by unfold partsS; rw [if_neg hs, if_neg hz]
      rw [hp] at HA hbd
      rw [← hsg] at hs
      have HB := ahid hbd
      have hm0 : 0 < n % 2048 := by omega
      have hm1 : n % 2048 < 2048 := by omega
      have hq : wrap32 (n % 2048) = n % 2048 := by unfold wrap32; omega
      clear hbd hp hsg hz
      generalize n % 2048 = r at *
      obtain ⟨i0, hi, hz0, hz1, hz2⟩ := info_parts infoi
      have hown := own_new w w.heap.size #[.int .u8 15, .int .u8 rd, .int .u8 0, .int .u8 0, .bool true, .int .i32 (n / 2048)] 55 1 6 rfl (by simp [maxLen]) (Nat.le_refl _)
      have hcn := cells_new (w.alloc (.cells #[.int .u8 15, .int .u8 rd, .int .u8 0, .int .u8 0, .bool true, .int .i32 (n / 2048)] 55)) #[.int .u8 7, .int .u8 rd, .int .u8 rd, .int .u8 0, .bool true, .int .i32 r] 55
      rw [show (w.alloc (.cells #[.int .u8 15, .int .u8 rd, .int .u8 0, .int .u8 0, .bool true, .int .i32 (n / 2048)] 55)).heap.size = w.heap.size + 1 by simp] at hcn
      have HO := ahid (And.intro hown hcn)
      clear hown hcn
      have hfin : ∀ v' w3, w3.ownsRow w.heap.size 55 6 v' 2 ([Value.int .u8 15, .int .u8 rd, .int .u8 0, .int .u8 0, .bool true, .int .i32 (n / 2048)] ++ [.int .u8 7, .int .u8 rd, .int .u8 rd, .int .u8 0, .bool true, .int .i32 r]) → ((w.alloc (.cells #[.int .u8 15, .int .u8 rd, .int .u8 0, .int .u8 0, .bool true, .int .i32 (n / 2048)] 55)).alloc (.cells #[.int .u8 7, .int .u8 rd, .int .u8 rd, .int .u8 0, .bool true, .int .i32 r] 55)).grownBy w3 (some w.heap.size) →
          Below w.heap.size w w3 ∧ InsIn w3 v' [⟨15, rd, 0, 0, true, n / 2048⟩, ⟨7, rd, rd, 0, true, r⟩] := fun v' w3 ho hg =>
        ⟨(((Below.refl _ w).alloc (Nat.le_refl _) _).alloc (by simp) _).grown hg (by simp; omega) (fun k hk => by cases hk; exact Nat.le_refl _), InsIn.of_own (B := w.heap.size) HB.out (by simp [maxLen]) ho⟩
      have HF := ahid hfin
      clear hfin
      by_cases t1 : -16384 ≤ wrap32 n
      all_goals
        first | (have t2 : ¬ (wrap32 n < 16384) := fun h => hs ⟨t1, h⟩) | skip
        clear hs
        go_enter Tryd.func20, Tryd.ntmps20
        go_wp2_with (first | (at_builtin; refine wpList_append_own _ rfl _ _ 39 rfl w.heap.size 55 i0 _ 6 12 Tryd.underlying39 hi hz0 hz1 hz2 rfl (by decide) (.slice (some ⟨w.heap.size, 0, none⟩) 1 1) 1 _ rfl (HO.out.1.alloc _) ⟨w.heap.size + 1, 0, none⟩ 1 1 [.int .u8 7, .int .u8 rd, .int .u8 rd, .int .u8 0, .bool true, .int .i32 r] rfl rfl HO.out.2 (by simp [Value.oneCell']) (by simp [maxLen]) (by omega) (by simp; omega) ?_; intro v' w3 hown3 hgrow3 hnil3))
        obtain ⟨hb3, hv3⟩ := HF.out v' w3 hown3 hgrow3
        have HB3 := ahid hb3
        refine (HA.out _ hb3 _ hv3).mono ?_
        clear hown3 hgrow3 hnil3 hb3 hv3
        rintro e w' ⟨hx, hh⟩
        obtain ⟨q, rfl⟩ := hx
        have HH := ahid hh
        clear hh
        go_wp2_with fail
        exact HH.out
theorem aconst_any (w : World) (ht : Tab w) (p m : Nat) (sv : Value) (K : Nat → Prop) (L : List It) (M : List (List UInt8 × Int)) (h : AsmAt w p sv m K L M) (rd n : Int) (r0 : 0 ≤ rd) (r1 : rd < 256) (h0 : 0 ≤ n) (h1 : n < 4294967296) (hL : L.length + 2 < 4294967296) :
    Calls Tryd.prog 20 #[.pointer (some ⟨p, 0, none⟩), .int .u8 rd, .int .u32 n] w (PutOk w p sv m K L M (partsS rd n)) :=
  aconst_gen w _ rd n r0 r1 h0 h1 _ fun w1 hb v hv => (aput_any w1 (ht.keep hb) p m sv K L M (h.keep (Only.of_below (S := fun _ => False) hb) (fun _ _ h => h) (fun _ _ h => h)) v _ hv (by have := parts_len rd n; omega)).mono fun e w' hh => ⟨hh.ending, hh.of_below hb⟩
theorem aconst_none (w : World) (a : Value) (rd n : Int) (r0 : 0 ≤ rd) (r1 : rd < 256) (h0 : 0 ≤ n) (h1 : n < 4294967296) (hn : ∀ W, Below w.heap.size w W → Calls Tryd.prog 25 #[a] W fun e w' => e = .returned (.bool true) ∧ W = w') :
    Calls Tryd.prog 20 #[a, .int .u8 rd, .int .u32 n] w fun e w' => e = .returned (.int .i64 1) ∧ Below w.heap.size w w' :=
  aconst_gen w _ rd n r0 r1 h0 h1 _ fun w1 hb v hv => (aput_none w1 a v (fun W hW => hn W (hb.trans (hW.mono hb.size)))).mono fun e w' hh => ⟨⟨_, hh.1⟩, hh.1, hh.2 ▸ hb⟩
end Go.Proofs.YtgicenbjdadakaaDoor
