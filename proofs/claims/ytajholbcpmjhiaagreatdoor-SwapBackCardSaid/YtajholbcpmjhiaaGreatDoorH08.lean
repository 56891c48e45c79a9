/- Several texts in one: AsmPutLaw, AsmPut, Row32, AsmWords, AsmJump, AsmConst, BootSpec. -/
import Derived.Test.YtajholbcpmjhiaaGreatDoorH07
import Derived.Lib.SliceRun
set_option linter.unusedVariables false
set_option linter.unusedSimpArgs false
/- Put of the package asm: what its loop keeps. No function of the program is walked here. -/
namespace Go.Proofs.YtajholbcpmjhiaaGreatDoor
open Go.RowKit Go.Maps
structure InsAt (w : World) (b o : Nat) (x : Ix) : Prop where
  c0 : w.cell? ⟨b, o, none⟩ = some (.int .u8 x.op)
  c1 : w.cell? ⟨b, o + 1, none⟩ = some (.int .u8 x.rd)
  c2 : w.cell? ⟨b, o + 2, none⟩ = some (.int .u8 x.rs1)
  c3 : w.cell? ⟨b, o + 3, none⟩ = some (.int .u8 x.rs2)
  c4 : w.cell? ⟨b, o + 4, none⟩ = some (.bool x.is)
  c5 : w.cell? ⟨b, o + 5, none⟩ = some (.int .i32 x.imm)
  bd : x.bd
theorem InsAt.lt {w : World} {b o : Nat} {x : Ix} (h : InsAt w b o x) : b < w.heap.size := World.block_lt_of_cell? _ _ h.c0
theorem InsAt.keep {S : Nat → Prop} {w w' : World} {b o : Nat} {x : Ix} (h : InsAt w b o x) (hb : Only S w w') (hs : ¬ S b) : InsAt w' b o x :=
  have hl := h.lt
  ⟨(hb.cell (p := ⟨b, o, none⟩) hl hs).trans h.c0, (hb.cell (p := ⟨b, o + 1, none⟩) hl hs).trans h.c1, (hb.cell (p := ⟨b, o + 2, none⟩) hl hs).trans h.c2, (hb.cell (p := ⟨b, o + 3, none⟩) hl hs).trans h.c3, (hb.cell (p := ⟨b, o + 4, none⟩) hl hs).trans h.c4, (hb.cell (p := ⟨b, o + 5, none⟩) hl hs).trans h.c5, h.bd⟩
theorem InsAt.keepb {w w' : World} {b o : Nat} {x : Ix} (h : InsAt w b o x) (hb : Below w.heap.size w w') : InsAt w' b o x := h.keep (Only.of_below (S := fun _ => False) hb) id
def InsIn (w : World) (v : Value) (l : List Ix) : Prop :=
  l.length ≤ maxLen ∧ ∃ p c b o, v = .slice p l.length c ∧ (0 < l.length → p = some ⟨b, o, none⟩) ∧ ∀ k x, l[k]? = some x → InsAt w b (o + k * 6) x
theorem InsIn.keepb {w w' : World} {v : Value} {l : List Ix} (h : InsIn w v l) (hb : Below w.heap.size w w') : InsIn w' v l := by
  obtain ⟨h1, p, c, b, o, h2, h3, h4⟩ := h
  exact ⟨h1, p, c, b, o, h2, h3, fun k x hx => (h4 k x hx).keepb hb⟩
structure PutAt (w : World) (l : List Ix) (mv : Value) (k : Nat) (wr : World) : Prop where
  ex : ∃ (vs : List Value) (C : Nat → Prop), wr.ownsRow 0 150 1 mv k vs ∧ vs.length = k ∧ (∀ (i : Nat) (v : Value) (x : Ix), vs[i]? = some v → l[i]? = some x → CloAt wr C v (.put x)) ∧ (∀ i, C i → w.heap.size ≤ i ∧ i < wr.heap.size ∧ mv.ownBlock ≠ some i)
  fresh : ∀ i, mv.ownBlock = some i → w.heap.size ≤ i
  may : ∀ (i : Nat) (x : Ix), i < k → l[i]? = some x → mayP x
  below : Below w.heap.size w wr
theorem PutAt.start (w : World) (l : List Ix) : PutAt w l (.slice none 0 0) 0 w :=
  ⟨⟨[], fun _ => False, World.ownsRow_nil w 0 _ 1, rfl, fun i v x hv => by simp at hv, fun i h => h.elim⟩, fun i h => by simp [Value.ownBlock] at h, fun i x h => by omega, Below.refl _ _⟩
theorem PutAt.more {w wr w2 w3 : World} {l : List Ix} {mv v' : Value} {k : Nat} {x : Ix} (h : PutAt w l mv k wr) (hx : l[k]? = some x) (hm : mayP x) (hb : Below wr.heap.size wr w2) (c : Nat) (hc1 : wr.heap.size ≤ c) (hc2 : c < w2.heap.size) (hc3 : w2.cell? ⟨c, 0, none⟩ = some (.int .u32 (encS x)))
    {vs : List Value} {C : Nat → Prop} (hown : wr.ownsRow 0 150 1 mv k vs) (hlen : vs.length = k) (hvs : ∀ (i : Nat) (v : Value) (x : Ix), vs[i]? = some v → l[i]? = some x → CloAt wr C v (.put x)) (hC : ∀ i, C i → w.heap.size ≤ i ∧ i < wr.heap.size ∧ mv.ownBlock ≠ some i)
    (h3 : w3.ownsRow 0 150 1 v' (k + 1) (vs ++ [.func (.func 80) #[] #[.pointer (some ⟨c, 0, none⟩)]])) (hg : w2.grownBy w3 mv.ownBlock) (hp : v'.ownBlock = mv.ownBlock ∨ ∀ i, v'.ownBlock = some i → w2.heap.size ≤ i) : PutAt w l v' (k + 1) w3 := by
  have hwr := h.below.size
  have o2 : Only (fun i => mv.ownBlock = some i) wr w3 := (Only.of_below hb).grown hg (fun i hi _ => hi.symm ▸ rfl)
  have o3 : Only (fun i => mv.ownBlock = some i) w2 w3 := (Only.refl _ _).grown hg (fun i hi _ => hi.symm ▸ rfl)
  have hne : mv.ownBlock ≠ some c := fun e => by have := (hown.lt c e).2; omega
  refine ⟨⟨_, fun i => C i ∨ i = c, h3, by simp [hlen], ?_, ?_⟩, ?_, ?_, ?_⟩
  · intro i v y hv hy
    by_cases hi : i < vs.length
    · rw [List.getElem?_append_left hi] at hv
      exact (hvs i v y hv hy).keep o2 (fun j hj e => (hC j hj).2.2 e) (fun j _ hj => .inl hj)
    · rw [List.getElem?_append_right (by omega)] at hv
      have hik : i - vs.length = 0 := by
        rcases Nat.eq_zero_or_pos (i - vs.length) with e | e
        · exact e
        · rw [List.getElem?_eq_none (by simp; omega)] at hv; cases hv
      rw [hik] at hv
      simp only [List.getElem?_cons_zero, Option.some.injEq] at hv
      obtain rfl : i = k := by omega
      rw [hx] at hy
      cases hy
      exact ⟨c, hv.symm, .inr rfl, (o3.cell (p := ⟨c, 0, none⟩) hc2 hne).trans hc3⟩
  · have hs3 := hg.size
    have hs2 := hb.size
    rintro i (hi | rfl)
    · obtain ⟨a1, a2, a3⟩ := hC i hi
      refine ⟨a1, by omega, ?_⟩
      rcases hp with e | e
      · rw [e]; exact a3
      · intro e2; have := e i e2; omega
    · refine ⟨by omega, by omega, ?_⟩
      rcases hp with e | e
      · rw [e]; exact hne
      · intro e2; have := e i e2; omega
  · intro i hi
    have hs2 := hb.size
    rcases hp with e | e
    · exact h.fresh i (e ▸ hi)
    · have := e i hi; omega
  · intro i y hi hy
    by_cases hik : i < k
    · exact h.may i y hik hy
    · obtain rfl : i = k := by omega
      rw [hx] at hy; cases hy; exact hm
  · exact o2.below (B := w.heap.size) hwr (fun i hi e => by have := h.fresh i e; omega) |> h.below.trans
def PutOk (w : World) (p : Nat) (sv : Value) (m : Nat) (K : Nat → Prop) (L : List It) (M : List (List UInt8 × Int)) (l : List Ix) (e : Ending) (w' : World) : Prop :=
  if ∀ x ∈ l, mayP x then e = .returned (.int .i64 0) ∧ AddOk w p sv m K L M (l.map .put) w' else e = .returned (.int .i64 2) ∧ Below w.heap.size w w'
theorem PutAt.fin {w wr w3 : World} {l : List Ix} {mv v' : Value} {p m : Nat} {sv : Value} {K : Nat → Prop} {L : List It} {M : List (List UInt8 × Int)} (hA : AsmAt w p sv m K L M) (h : PutAt w l mv l.length wr) {vs : List Value} {C : Nat → Prop}
    (hlen : vs.length = l.length) (hvs : ∀ (i : Nat) (v : Value) (x : Ix), vs[i]? = some v → l[i]? = some x → CloAt wr C v (.put x)) (hC : ∀ i, C i → w.heap.size ≤ i ∧ i < wr.heap.size ∧ mv.ownBlock ≠ some i)
    {us : List Value} (hul : us.length = L.length) (hus : ∀ (i : Nat) (v : Value) (it : It), us[i]? = some v → L[i]? = some it → CloAt wr (fun k => K k ∧ k < w.heap.size) v it)
    (hr : w3.ownsRow 0 150 1 v' (L.length + l.length) (us ++ vs)) (g : wr.grownBy w3 sv.ownBlock) (hpl : v'.ownBlock = sv.ownBlock ∨ ∀ k, v'.ownBlock = some k → wr.heap.size ≤ k) :
    AddOk w p sv m K L M (l.map .put) (w3.setCell ⟨p, 0, none⟩ v') := by
  have hbl := hA.blocks
  have hA2 := (hA.trim).keep (Only.of_below (S := fun _ => False) h.below) (fun _ _ h => h) (fun _ _ h => h)
  have hwr := h.below.size
  have hadd := hA2.add (L2 := l.map .put) (K2 := fun k => (K k ∧ k < w.heap.size) ∨ C k) (vs := us) (new := vs) g (by rw [List.length_map]; exact hr) hpl hul hus (by rw [List.length_map]; exact hlen)
    (fun i v it hv hi => by
      rw [List.getElem?_map] at hi
      cases hli : l[i]? with
      | none => rw [hli] at hi; cases hi
      | some x =>
        rw [hli] at hi
        cases hi
        exact (hvs i v x hv hli).keep (Only.refl (fun _ => False) wr) (fun _ _ h => h) (fun k _ hk => .inr hk))
    (fun k hk => by
      rcases hk with hk | hk
      · exact ⟨by omega, hA.apart k hk.1⟩
      · obtain ⟨a1, a2, a3⟩ := hC k hk
        exact ⟨a2, by omega, fun e => by have := hbl.2.2 k e; omega, by omega⟩)
    (fun k _ hk => .inl hk)
  refine ⟨v', _, hadd.1, ?_, ?_, ?_⟩
  · exact (Only.of_below h.below).fresh hadd.2 (fun _ _ h => h)
  · intro k hk ho
    rcases ho with h | h | h
    · exact .inl h
    · rcases hpl with e | e
      · exact .inr (.inl (e ▸ h))
      · have := e k h; omega
    · exact .inr (.inr h)
  · intro k hk ho
    rcases ho with h | h
    · exact h.1
    · have := (hC k h).1; omega
end Go.Proofs.YtajholbcpmjhiaaGreatDoor
/- Walks of the package asm: Put. -/
namespace Go.Proofs.YtajholbcpmjhiaaGreatDoor
open Go.RowKit Go.Maps
theorem cell_one_new2 (w : World) (A : Obj) (v : Value) (T : TypeId) : ∀ (j : Nat) u, [v][j]? = some u → ((w.alloc A).alloc (.cells #[v] T)).cell? ((⟨w.heap.size + 1, 0, none⟩ : Addr).add j) = some u := by
  have h := cell_one_new (w.alloc A) v T
  rw [show (w.alloc A).heap.size = w.heap.size + 1 by simp] at h
  exact h
theorem PutOk.yes {w w' : World} {p m : Nat} {sv : Value} {K : Nat → Prop} {L : List It} {M : List (List UInt8 × Int)} {l : List Ix} (h : ∀ x ∈ l, mayP x) (h2 : AddOk w p sv m K L M (l.map .put) w') : PutOk w p sv m K L M l (.returned (.int .i64 0)) w' := by
  unfold PutOk; rw [if_pos h]; exact ⟨rfl, h2⟩
set_option maxRecDepth 100000 in
set_option maxHeartbeats 2000000 in
theorem aput_any (w : World) (ht : Tab w) (p m : Nat) (sv : Value) (K : Nat → Prop) (L : List It) (M : List (List UInt8 × Int)) (h : AsmAt w p sv m K L M) (v : Value) (l : List Ix) (hl : InsIn w v l) (hL : L.length + l.length < 4294967296) :
    Calls Tryz.prog 29 #[.pointer (some ⟨p, 0, none⟩), v] w (PutOk w p sv m K L M l) := by
  obtain ⟨c0, c1, f0, f1⟩ := h.cells
  obtain ⟨hlm, pv, cv, b, o, rfl, hpv, hins⟩ := hl
  have HN := ahid (anone_made w p m c1)
  have H := ahid h
  have HT := ahid ht
  have HI := ahid hins
  have HP := ahid hpv
  clear h ht hins hpv c0 c1 f0 f1
  unfold maxLen at hlm
  obtain ⟨i0, hi, hz0, hz1, hz2⟩ := info_parts infow
  have HII := ahid (And.intro hi (And.intro hz0 (And.intro hz1 hz2)))
  clear hi hz0 hz1 hz2
  have HS := ahid (PutAt.start w l)
  go_enter Tryz.func29, Tryz.ntmps29
  go_wp2_with fail
  refine HN.out.mono ?_
  rintro e w' ⟨rfl, rfl⟩
  go_wp2_with fail
  go_loopw [5, 14] (fun v5 i wr => ∃ (k : Nat) (mv : Value), k ≤ l.length ∧ i = .int .i64 k ∧ mv = v5 ∧ PutAt w l mv k wr) (fun _ i _ => l.length - (intOf i).toNat)
  case atStart => exact ⟨0, _, Nat.zero_le _, rfl, rfl, HS.out⟩
  case round =>
    obtain ⟨k, mv, hk, rfl, rfl, HR⟩ := hrel
    replace HR := ahid HR
    by_cases hlt : k < l.length
    · obtain ⟨x, hx⟩ : ∃ x, l[k]? = some x := ⟨_, List.getElem?_eq_getElem hlt⟩
      obtain rfl := HP.out (by omega)
      have hxi := (HI.out k x hx).keepb HR.out.below
      have c0 := hxi.c0
      have c1 := hxi.c1
      have c2 := hxi.c2
      have c3 := hxi.c3
      have c4 := hxi.c4
      have c5 := hxi.c5
      have HX := ahid hx
      have HB := ahid hxi.bd
      clear hx hxi
      have hE := ahid (fun W hW => encode_any x HB.out W hW)
      have hkn : (k : Int) < l.length := by omega
      obtain ⟨op, rd, rs1, rs2, is, imm⟩ := x
      go_wp2_with fail
      have hb1 : Below wr.heap.size wr (wr.alloc (.cells #[.int .u8 op, .int .u8 rd, .int .u8 rs1, .int .u8 rs2, .bool is, .int .i32 imm] 41)) := (Below.refl _ _).alloc (Nat.le_refl _) _
      have hsz1 : (wr.alloc (.cells #[.int .u8 op, .int .u8 rd, .int .u8 rs1, .int .u8 rs2, .bool is, .int .i32 imm] 41)).heap.size = wr.heap.size + 1 := by simp
      have HB1 := ahid (And.intro hb1 hsz1)
      clear hb1 hsz1 c0 c1 c2 c3 c4 c5
      generalize wr.alloc (.cells #[.int .u8 op, .int .u8 rd, .int .u8 rs1, .int .u8 rs2, .bool is, .int .i32 imm] 41) = w1 at *
      refine (hE.out w1 ((HT.out.keep HR.out.below).keep (HB1.out.1.mono HR.out.below.size |> fun b => by exact HB1.out.1))).mono ?_
      rintro e w2 ⟨rfl, bl⟩
      have HB2 := ahid (And.intro (HB1.out.1.trans (bl.mono HB1.out.1.size)) (by have := bl.size; have := HB1.out.2; omega : wr.heap.size < w2.heap.size))
      clear bl HB1
      by_cases hm : mayP ⟨op, rd, rs1, rs2, is, imm⟩
      · have he : encE ⟨op, rd, rs1, rs2, is, imm⟩ = 0 := if_pos hm
        rw [he]
        have HM := ahid hm
        clear he hm
        obtain ⟨vs, C, hown, hlen, hvs, hC⟩ := HR.out.ex
        have HV := ahid (And.intro hown (And.intro hlen (And.intro hvs hC)))
        clear hown hlen hvs hC
        have hown2 := HV.out.1.keepw (Only.of_below (S := fun _ => False) HB2.out.1) (fun _ _ h => h)
        generalize hq : encS ⟨op, rd, rs1, rs2, is, imm⟩ = q
        have HQ := ahid hq
        clear hq
        have hi := HII.out.1
        go_wp2_with (first | (at_builtin; refine wpList_append_place _ rfl _ _ 134 rfl 150 i0 _ 8 Tryz.underlying134 hi HII.out.2.1 HII.out.2.2.1 HII.out.2.2.2 rfl mv k vs rfl ((hown2.alloc _).alloc _) ⟨w2.heap.size + 1, 0, none⟩ 1 1 [.func (.func 80) #[] #[.pointer (some ⟨w2.heap.size, 0, none⟩)]] rfl rfl (cell_one_new2 _ _ _ _) (by simp [Value.oneCell']) (by unfold maxLen; omega) (by omega) ?_; intro v' w3 hown3 hgrow3 hpl3))
        have hb3 : Below wr.heap.size wr ((w2.alloc (.cells #[.int .u32 q] 24)).alloc (.cells #[.func (.func 80) #[] #[.pointer (some ⟨w2.heap.size, 0, none⟩)]] 150)) := (HB2.out.1.alloc (Nat.le_of_lt HB2.out.2) _).alloc (by have := HB2.out.2; simp; omega) _
        have hmore := HR.out.more HX.out HM.out hb3 w2.heap.size (Nat.le_of_lt HB2.out.2) (by simp; omega) (by rw [HQ.out]; simp [go_sem]) HV.out.1 HV.out.2.1 HV.out.2.2.1 HV.out.2.2.2 hown3 hgrow3 hpl3
        go_roundw
        case rel => exact ⟨k + 1, v', by omega, by go_num, rfl, hmore⟩
        case measure => simp [intOf]; omega
      · have he : encE ⟨op, rd, rs1, rs2, is, imm⟩ = 2 := if_neg hm
        rw [he]
        have hbf : Below w.heap.size w w2 := HR.out.below.trans (HB2.out.1.mono HR.out.below.size)
        have hfin : ∀ (o : Obj), PutOk w p sv m K L M l (.returned (.int .i64 2)) (w2.alloc o) := fun o => by
          unfold PutOk
          rw [if_neg (fun h => hm (h _ (List.mem_of_getElem? HX.out)))]
          exact ⟨rfl, hbf.alloc hbf.size _⟩
        have HF := ahid hfin
        clear hfin hbf he hm HR
        generalize encS ⟨op, rd, rs1, rs2, is, imm⟩ = q
        go_wp2_with fail
        go_ret
        exact HF.out _
    · obtain rfl : k = l.length := by omega
      have hkn : ¬ ((l.length : Int) < l.length) := by omega
      have HA := ahid (H.out.keep (Only.of_below (S := fun _ => False) HR.out.below) (fun _ _ h => h) (fun _ _ h => h))
      obtain ⟨c0, c1, f0, f1⟩ := HA.out.cells
      have hall : ∀ x ∈ l, mayP x := fun x hx => by
        obtain ⟨i, hi, he⟩ := List.mem_iff_getElem.1 hx
        exact HR.out.may i x hi (by rw [List.getElem?_eq_getElem hi, he])
      obtain ⟨us, hus1, hus2, hus3⟩ := (H.out.trim.keep (Only.of_below (S := fun _ => False) HR.out.below) (fun _ _ h => h) (fun _ _ h => h)).row
      obtain ⟨vs, C, hown, hlen, hvs, hC⟩ := HR.out.ex
      have hi := HII.out.1
      have HC := ahid hC
      have HV := ahid hvs
      have HL := ahid hall
      have HU := ahid (And.intro hus2 hus3)
      have hor := hown.2
      clear hC hvs hall hus2 hus3
      rcases hor with ⟨rfl, hl0⟩ | ⟨g, cap, cur, rfl, hrest⟩
      · have HL0 := ahid hl0
        clear hl0
        rcases HA.out.slice with ⟨rfl, _⟩ | ⟨gs, caps, rfl, _⟩
        all_goals
          go_wp2_with (first | (at_builtin; refine wpList_append_own_none rfl _ _ 134 rfl 0 150 i0 1 Tryz.underlying134 hi _ L.length us rfl hus1 rfl ?_))
          go_ret
          refine PutOk.yes HL.out ?_
          refine PutAt.fin H.out HR.out hlen HV.out HC.out HU.out.1 HU.out.2 ?_ ⟨rfl, rfl, rfl, Nat.le_refl _, fun _ _ _ => rfl⟩ (.inl rfl)
          obtain rfl : vs = [] := List.eq_nil_of_length_eq_zero (by rw [hlen]; exact HL0.out)
          rw [HL0.out, Nat.add_zero, List.append_nil]
          exact hus1
      · have hcl := hown.cells rfl
        have h1c : ∀ u ∈ vs, u.oneCell' = true := fun u hu => by
          obtain ⟨i, hi, he⟩ := List.mem_iff_getElem.1 hu
          obtain ⟨c, hc, _⟩ := HV.out i u l[i] (by rw [List.getElem?_eq_getElem hi, he]) (List.getElem?_eq_getElem (by omega))
          rw [hc]; simp [Value.oneCell']
        have HCL := ahid (And.intro hcl h1c)
        clear hcl h1c hrest
        go_wp2_with (first | (at_builtin; refine wpList_append_place _ rfl _ _ 134 rfl 150 i0 _ 8 Tryz.underlying134 hi HII.out.2.1 HII.out.2.2.1 HII.out.2.2.2 rfl sv L.length us rfl hus1 ⟨g, 0, none⟩ l.length cap vs rfl (by rw [hlen, Nat.mul_one]) HCL.out.1 HCL.out.2 (by unfold maxLen; omega) (by omega) ?_; intro v' w3 hown3 hgrow3 hpl3; have o3 : Only (fun k => sv.ownBlock = some k) wr w3 := ((Only.refl _ wr)).grown hgrow3 (fun k hk _ => hk.symm ▸ rfl); have c3 := (o3.cell (p := ⟨p, 0, none⟩) (lt_of_block HA.out.ptr) HA.out.ne.2.1).trans c0; have f3 := (World.frozen?_of_block (a := ⟨p, 0, none⟩) (o3.block p (lt_of_block HA.out.ptr) HA.out.ne.2.1)).trans f0; replace hgrow3 := ahid hgrow3; replace hpl3 := ahid hpl3; rcases hown3.2 with ⟨rfl, _⟩ | ⟨g3, cap3, _, rfl, _⟩))
        all_goals
          go_ret
          refine PutOk.yes HL.out ?_
          exact PutAt.fin H.out HR.out hlen HV.out HC.out HU.out.1 HU.out.2 hown3 hgrow3.out hpl3.out
end Go.Proofs.YtajholbcpmjhiaaGreatDoor
/- The walk of muntinref03.Same: are two rows of words the same? -/
namespace Go.Proofs.YtajholbcpmjhiaaGreatDoor
open Go.RowKit
def Reads32 (w : World) (v : Value) (l : List Int) : Prop :=
  l.length ≤ maxLen ∧ ∃ p c, v = .slice p l.length c ∧ (0 < l.length → ∃ b o, p = some ⟨b, o, none⟩ ∧ ∀ k, k < l.length → w.cell? ⟨b, o + k, none⟩ = some (.int .u32 (l.getD k 0)))
theorem Reads32.shape {w : World} {v : Value} {l : List Int} (h : Reads32 w v l) : ∃ b o p c, v = .slice p l.length c ∧ l.length ≤ maxLen ∧ (0 < l.length → p = some ⟨b, o, none⟩) ∧ ∀ k, k < l.length → w.cell? ⟨b, o + k, none⟩ = some (.int .u32 (l.getD k 0)) := by
  obtain ⟨h1, p, c, rfl, h2⟩ := h
  by_cases h0 : 0 < l.length
  · obtain ⟨b, o, rfl, h3⟩ := h2 h0
    exact ⟨b, o, _, c, rfl, h1, fun _ => rfl, h3⟩
  · exact ⟨0, 0, p, c, rfl, h1, fun h => absurd h h0, fun k hk => by omega⟩
theorem Reads32.keepb {a b : World} {v : Value} {l : List Int} (h : Reads32 a v l) (hb : Below a.heap.size a b) : Reads32 b v l := by
  obtain ⟨h1, p, c, rfl, h2⟩ := h
  refine ⟨h1, p, c, rfl, fun h0 => ?_⟩
  obtain ⟨g, o, rfl, h3⟩ := h2 h0
  exact ⟨g, o, rfl, fun k hk => (hb.cell (World.block_lt_of_cell? _ _ (h3 k hk))).trans (h3 k hk)⟩
theorem Reads32.shape' {w : World} {v : Value} {l : List Int} (h : Reads32 w v l) : ∃ p n c, v = .slice p n c := by obtain ⟨_, p, c, h, _⟩ := h; exact ⟨_, _, _, h⟩
theorem Reads32.keepO {S : Nat → Prop} {a b : World} {v : Value} {l : List Int} (h : Reads32 a v l) (o : Only S a b) (hS : ∀ k, v.ownBlock = some k → ¬ S k) : Reads32 b v l := by
  obtain ⟨h1, p, c, rfl, h2⟩ := h
  refine ⟨h1, p, c, rfl, fun h0 => ?_⟩
  obtain ⟨g, q, rfl, h3⟩ := h2 h0
  exact ⟨g, q, rfl, fun k hk => (o.cell (p := ⟨g, q + k, none⟩) (World.block_lt_of_cell? _ _ (h3 k hk)) (hS g rfl)).trans (h3 k hk)⟩
theorem Reads32.of_own {w : World} {base : Nat} {v : Value} {l : List Int} (h : w.ownsRow base 24 1 v l.length (u32s l)) : Reads32 w v l := by
  rcases h.2 with ⟨h1, h2⟩ | ⟨g, cap, cur, h1, h2, h3, h4, h5, h6, h7⟩
  · obtain rfl := List.length_eq_zero_iff.1 h2
    exact ⟨by unfold maxLen; simp, none, 0, h1, fun h => by simp at h⟩
  · refine ⟨by omega, _, cap, h1, fun _ => ⟨g, 0, rfl, fun k hk => ?_⟩⟩
    rw [Nat.zero_add, cell_of_obj h3]
    have e : cur[k]? = (cur.toList.take (l.length * 1))[k]? := by
      rw [List.getElem?_take_of_lt (by omega)]; simp
    rw [e, h7]
    simp [u32s, hk]
set_option maxHeartbeats 1000000 in
theorem same_any (w : World) (u v : Value) (a b : List Int) (hu : Reads32 w u a) (hv : Reads32 w v b) :
    Calls Tryz.prog 22 #[u, v] w fun e w' => e = .returned (.bool (decide (a = b))) ∧ Below w.heap.size w w' := by
  obtain ⟨ba, oa, pa, ca, rfl, la, qa, ha⟩ := hu.shape
  obtain ⟨bb, ob, pb, cb, rfl, lb, qb, hb⟩ := hv.shape
  unfold maxLen at la lb
  have QA := mhid (And.intro qa ha)
  have QB := mhid (And.intro qb hb)
  clear qa ha qb hb hu hv
  by_cases hl : a.length = b.length
  · have hneq : ((a.length : Int) != (b.length : Int)) = false := by simp [hl]
    have HL := mhid hl
    clear hl
    go_enter Tryz.func22, Tryz.ntmps22
    go_wp2_with fail
    go_loopw [5] (fun i wr => ∃ k : Nat, k ≤ a.length ∧ i = .int .i64 k ∧ a.take k = b.take k ∧ (∃ n, wr = w.drewN n)) (fun i _ => a.length - (intOf i).toNat)
    case atStart => exact ⟨0, Nat.zero_le _, rfl, rfl, 0, rfl⟩
    case round =>
      obtain ⟨k, hk, rfl, htk, n, rfl⟩ := hrel
      have HT := mhid htk
      clear htk
      by_cases hlt : k < a.length
      · have hlb : k < b.length := by rw [← HL.out]; exact hlt
        obtain rfl := QA.out.1 (by omega)
        obtain rfl := QB.out.1 (by omega)
        have c1 := QA.out.2 k hlt
        have c2 := QB.out.2 k hlb
        have hx : a.getD k 0 = a[k] := by simp [List.getD_eq_getElem?_getD, hlt]
        have hy : b.getD k 0 = b[k] := by simp [List.getD_eq_getElem?_getD, hlb]
        have t1 := List.take_succ_eq_append_getElem hlt
        have t2 := List.take_succ_eq_append_getElem hlb
        have h1 : (k : Int) < a.length := by omega
        have h2 : (k : Int) < b.length := by omega
        by_cases hxy : a.getD k 0 = b.getD k 0
        · have hab : a.take (k + 1) = b.take (k + 1) := by rw [t1, t2, HT.out, ← hx, ← hy, hxy]
          have HA := mhid hab
          rw [hxy] at c1
          clear hab t1 t2 hx hy hxy
          generalize b.getD k 0 = y at c1 c2
          go_wp2_with fail
          go_quiet (fail)
          go_wp2_with fail
          exact ⟨⟨k + 1, by omega, by go_num, HA.out, _, rfl⟩, by simp [intOf] <;> omega⟩
        · have hab : a ≠ b := fun e => hxy (by rw [e])
          have HA := mhid hab
          clear hab t1 t2 hx hy
          generalize b.getD k 0 = y at c2 hxy
          generalize a.getD k 0 = x at c1 hxy
          have hne : (x != y) = true := by simpa using hxy
          go_wp2_with fail
          go_quiet (fail)
          go_wp2_with fail
          go_ret
          exact ⟨mret_val (by rw [decide_eq_false HA.out]; rfl), Go.below_drewN (Go.below_drewN (Below.refl _ _) n) _⟩
      · obtain rfl : k = a.length := by omega
        have hab : a = b := by
          have h1 := HT.out
          rw [List.take_length, HL.out, List.take_length] at h1; exact h1
        have HA := mhid hab
        clear hab
        go_wp2_with fail
        go_ret
        exact ⟨mret_val (by rw [decide_eq_true HA.out]; rfl), Go.below_drewN (Below.refl _ _) n⟩
  · have hneq : ((a.length : Int) != (b.length : Int)) = true := by simp; omega
    have hab : a ≠ b := fun e => hl (by rw [e])
    have HA := mhid hab
    clear hab hl
    go_enter Tryz.func22, Tryz.ntmps22
    go_wp2_with fail
    go_ret
    exact ⟨mret_val (by rw [decide_eq_false HA.out]; rfl), Below.refl _ _⟩
end Go.Proofs.YtajholbcpmjhiaaGreatDoor
/- Walks of the package asm: Words. -/
namespace Go.Proofs.YtajholbcpmjhiaaGreatDoor
open Go.RowKit Go.Maps
def itW (M : List (List UInt8 × Int)) (i : Int) : It → Int
  | .put x => encS x
  | .far x nm => match look M nm.data.toList with | none => 0 | some t => farW x (t - i)
def itE (M : List (List UInt8 × Int)) (i : Int) : It → Int
  | .put x => 0
  | .far x nm => match look M nm.data.toList with | none => 7 | some t => farE x (t - i)
def wordsL (M : List (List UInt8 × Int)) : Nat → List It → List Int
  | _, [] => []
  | i, it :: L => itW M i it :: wordsL M (i + 1) L
def wordsE (M : List (List UInt8 × Int)) : Nat → List It → Int
  | _, [] => 0
  | i, it :: L => if itE M i it = 0 then wordsE M (i + 1) L else itE M i it
theorem wordsL_len (M : List (List UInt8 × Int)) : ∀ (L : List It) (i : Nat), (wordsL M i L).length = L.length := by
  intro L; induction L with
  | nil => intro i; rfl
  | cons x L ih => intro i; simp [wordsL, ih]
theorem wordsL_snoc (M : List (List UInt8 × Int)) (it : It) : ∀ (L : List It) (i : Nat), wordsL M i (L ++ [it]) = wordsL M i L ++ [itW M (i + L.length : Nat) it] := by
  intro L; induction L with
  | nil => intro i; simp [wordsL]
  | cons x L ih => intro i; simp only [List.cons_append, wordsL, ih, List.length_cons]; rw [show i + 1 + L.length = i + (L.length + 1) by omega]
theorem wordsE_append (M : List (List UInt8 × Int)) : ∀ (L L2 : List It) (i : Nat), wordsE M i (L ++ L2) = if wordsE M i L = 0 then wordsE M (i + L.length) L2 else wordsE M i L := by
  intro L; induction L with
  | nil => intro L2 i; simp [wordsE]
  | cons x L ih =>
    intro L2 i
    simp only [List.cons_append, wordsE, ih, List.length_cons]
    rw [show i + 1 + L.length = i + (L.length + 1) by omega]
    by_cases h : itE M i x = 0
    · simp [h]
    · simp [h]
theorem wordsE_stop (M : List (List UInt8 × Int)) (L : List It) (k : Nat) (it : It) (h0 : wordsE M 0 (L.take k) = 0) (hk : L[k]? = some it) (he : itE M k it ≠ 0) : wordsE M 0 L = itE M k it := by
  have hlt : k < L.length := by
    rcases Nat.lt_or_ge k L.length with h | h
    · exact h
    · rw [List.getElem?_eq_none h] at hk; cases hk
  have e : L = L.take k ++ (it :: L.drop (k + 1)) := by
    rw [List.getElem?_eq_getElem hlt] at hk
    cases hk
    rw [← List.drop_eq_getElem_cons hlt, List.take_append_drop]
  rw [e, wordsE_append, if_pos h0, List.length_take, Nat.min_eq_left (by omega), Nat.zero_add, wordsE, if_neg he]
theorem words_step (M : List (List UInt8 × Int)) (L : List It) (k : Nat) (it : It) (h0 : wordsE M 0 (L.take k) = 0) (hk : L[k]? = some it) (he : itE M k it = 0) :
    wordsE M 0 (L.take (k + 1)) = 0 ∧ wordsL M 0 (L.take (k + 1)) = wordsL M 0 (L.take k) ++ [itW M k it] := by
  have hlt : k < L.length := by
    rcases Nat.lt_or_ge k L.length with h | h
    · exact h
    · rw [List.getElem?_eq_none h] at hk; cases hk
  have e : L.take (k + 1) = L.take k ++ [it] := by
    rw [List.getElem?_eq_getElem hlt] at hk
    cases hk
    exact List.take_succ_eq_append_getElem hlt
  rw [e, wordsL_snoc, wordsE_append, if_pos h0, List.length_take, Nat.min_eq_left (by omega), Nat.zero_add]
  exact ⟨by simp [wordsE, he], rfl⟩
def WordsOk (w : World) (L : List It) (M : List (List UInt8 × Int)) (e : Ending) (w' : World) : Prop :=
  ∃ v l, e = .returned (.tuple #[v, .int .i64 (wordsE M 0 L)]) ∧ l = (if wordsE M 0 L = 0 then wordsL M 0 L else []) ∧ w'.ownsRow w.heap.size 24 1 v l.length (u32s l) ∧ Below w.heap.size w w'
theorem WordsOk.stop {w wr : World} {L : List It} {M : List (List UInt8 × Int)} {k : Nat} {it : It} {e : Int} (h0 : wordsE M 0 (L.take k) = 0) (hk : L[k]? = some it) (he : itE M k it = e) (hne : e ≠ 0) (hb : Below w.heap.size w wr) :
    WordsOk w L M (.returned (.tuple #[.slice none 0 0, .int .i64 e])) wr := by
  have h := wordsE_stop M L k it h0 hk (by rw [he]; exact hne)
  rw [he] at h
  exact ⟨_, [], by rw [h], by rw [h, if_neg hne], World.ownsRow_nil _ _ _ _, hb⟩
theorem infou : (Tryz.prog.info? 24).map (fun i => (i.zero, i.size, i.bytes)) = some (some (.int .u32 0), 1, 4) := by kernel_rfl
theorem _root_.Go.World.ownsRow.kept_below {a b : World} {B : Nat} {e : TypeId} {size n : Nat} {v : Value} {xs : List Value} (h : a.ownsRow B e size v n xs) (o : Below a.heap.size a b) (_ : B ≤ a.heap.size) : b.ownsRow B e size v n xs := by
  refine ⟨h.1, ?_⟩
  rcases h.2 with h | ⟨g, cap, cur, e1, e2, e3, e4⟩
  · exact .inl h
  · exact .inr ⟨g, cap, cur, e1, e2, (o.block g (lt_of_block e3)).trans e3, e4⟩
theorem farE_cases (x : Ix) (d : Int) : farE x d = 0 ∨ farE x d = 50 := by unfold farE; split <;> simp
set_option maxRecDepth 100000 in
set_option maxHeartbeats 2000000 in
theorem awords_any (w : World) (ht : Tab w) (p m : Nat) (sv : Value) (K : Nat → Prop) (L : List It) (M : List (List UInt8 × Int)) (h : AsmAt w p sv m K L M) (hL : L.length < 4294967296) (hM : ∀ nm t, look M nm = some t → 0 ≤ t ∧ t < 4294967296) :
    Calls Tryz.prog 31 #[.pointer (some ⟨p, 0, none⟩)] w (WordsOk w L M) := by
  obtain ⟨c0, c1, f0, f1⟩ := h.cells
  have HN := ahid (anone_made w p m c1)
  obtain ⟨i0, hi, hz0, hz1, hz2⟩ := info_parts infou
  have HII := ahid (And.intro hi (And.intro hz0 (And.intro hz1 hz2)))
  clear hi hz0 hz1 hz2
  have HM := ahid hM
  have HT := ahid ht
  have H := ahid h
  clear ht hM h c1 f0 f1
  obtain ⟨vs, hown, hlen, hvs⟩ := H.out.row
  have HV := ahid (And.intro hlen hvs)
  clear hlen hvs
  rcases hown.2 with ⟨rfl, hl0⟩ | ⟨g, cap, cur, rfl, _, hcur, hcap1, hcap2, hsz, htk⟩
  · obtain rfl : L = [] := List.eq_nil_of_length_eq_zero hl0
    clear hown hl0
    go_enter Tryz.func31, Tryz.ntmps31
    go_wp2_with fail
    refine HN.out.mono ?_
    rintro e w' ⟨rfl, rfl⟩
    go_wp2_with fail
    refine wp_loop_rounds 1 ?_
    rw [rounds_succ]
    go_wp2_with fail
    go_ret2
    exact ⟨_, [], rfl, rfl, World.ownsRow_nil _ _ _ _, Below.refl _ _⟩
  · have hcell := hown.cells rfl
    have HC := ahid hcell
    clear hcell hcur hsz htk hown
    have HZ := ahid (World.ownsRow_nil w w.heap.size 24 1)
    unfold maxLen at hcap2
    go_enter Tryz.func31, Tryz.ntmps31
    go_wp2_with fail
    refine HN.out.mono ?_
    rintro e w' ⟨rfl, rfl⟩
    go_wp2_with fail
    go_loopw [4, 16] (fun v4 i wr => ∃ (k : Nat) (ov : Value), k ≤ L.length ∧ i = .int .i64 k ∧ ov = v4 ∧ wordsE M 0 (L.take k) = 0 ∧ wr.ownsRow w.heap.size 24 1 ov k (u32s (wordsL M 0 (L.take k))) ∧ Below w.heap.size w wr) (fun _ i _ => L.length - (intOf i).toNat)
    case atStart => exact ⟨0, _, Nat.zero_le _, rfl, rfl, rfl, HZ.out, Below.refl _ _⟩
    case round =>
      obtain ⟨k, ov, hk, rfl, rfl, hz, hrow, hbel⟩ := hrel
      have HR := ahid (And.intro hz (And.intro hrow hbel))
      clear hz hrow hbel
      by_cases hlt : k < L.length
      · obtain ⟨it, hit⟩ : ∃ it, L[k]? = some it := ⟨_, List.getElem?_eq_getElem hlt⟩
        obtain ⟨u, hu⟩ : ∃ u, vs[k]? = some u := ⟨_, List.getElem?_eq_getElem (by rw [HV.out.1]; exact hlt)⟩
        have hclo := HV.out.2 k u it hu hit
        have hcu := HC.out k u hu
        rw [addr_add0] at hcu
        have hA := H.out.keep (Only.of_below (S := fun _ => False) HR.out.2.2) (fun _ _ h => h) (fun _ _ h => h)
        have cu : wr.cell? ⟨g, k, none⟩ = some u := (HR.out.2.2.cell (p := ⟨g, k, none⟩) (World.block_lt_of_cell? _ _ hcu)).trans hcu
        have hclo2 := hclo.keep (Only.of_below (S := fun _ => False) HR.out.2.2) (fun _ _ h => h) (fun _ _ h => h)
        obtain ⟨_, c1, _, _⟩ := hA.cells
        have HK := ahid hit
        have HCL := ahid hclo2
        have HA := ahid hA
        have hkL : (k : Int) < L.length := by omega
        clear hit hu hclo hcu hclo2 hA
        have hown2 := HR.out.2.1
        cases it with
        | put x =>
          obtain ⟨c, rfl, hKc, hcc⟩ := HCL.out
          have HCC := ahid (fun mv => aput1_any wr K _ x ⟨c, rfl, hKc, hcc⟩ k mv c rfl hcc)
          have HE := ahid (show itE M k (.put x) = 0 from rfl)
          have HWD := ahid (show itW M k (.put x) = encS x from rfl)
          have HB3 := ahid HR.out.2.2
          clear hKc hcc HCL
          generalize encS x = q at HCC HWD
          go_wp2_with fail
          refine (HCC.out _).mono ?_
          rintro e w' ⟨rfl, rfl⟩
          have hi := HII.out.1
          go_wp2_with (first | (at_builtin; refine wpList_append_own _ rfl _ _ 22 rfl w.heap.size 24 i0 (.int .u32 0) 1 4 Tryz.underlying22 hi HII.out.2.1 HII.out.2.2.1 HII.out.2.2.2 rfl (by decide) _ k (u32s (wordsL M 0 (L.take k))) rfl (hown2.alloc _) ⟨wr.heap.size, 0, none⟩ 1 1 [.int .u32 q] rfl rfl (cell_one_new _ _ _) (by simp [Value.oneCell']) (by unfold maxLen; omega) (by omega) ((HB3.out.alloc HB3.out.size _).size) ?_; intro v' w3 hown3 hgrow3 hnil3))
          obtain ⟨hz3, hl3⟩ := words_step M L k _ HR.out.1 HK.out HE.out
          have hb3 := (HB3.out.alloc HB3.out.size _).grown hgrow3 (by simp; have := HB3.out.size; omega) (fun i hi => (HR.out.2.1.lt i hi).1)
          have hr3 : w3.ownsRow w.heap.size 24 1 v' (k + 1) (u32s (wordsL M 0 (L.take (k + 1)))) := by rw [hl3, HWD.out]; simpa [u32s] using hown3
          clear hl3
          go_roundw
          case rel => exact ⟨k + 1, v', by omega, by go_num, rfl, hz3, hr3, hb3⟩
          case measure => simp [intOf]; omega
        | far x nm =>
          obtain ⟨c, d, rfl, hKc, hKd, hcn, hcx, hnm, hbd⟩ := HCL.out
          cases hlk : look M nm.data.toList with
          | none =>
            have HCC := ahid (afar1_lost wr p m _ K L M HA.out k nm hnm c d hcn hlk)
            have HE := ahid (show itE M k (.far x nm) = 7 by simp only [itE, hlk])
            clear hKc hKd hcn hcx hnm hbd hlk HCL hown2
            go_wp2_with fail
            refine HCC.out.mono ?_
            rintro e w' ⟨rfl, rfl⟩
            go_wp2_with fail
            go_ret2
            exact WordsOk.stop HR.out.1 HK.out HE.out (by decide) HR.out.2.2
          | some t =>
            have htb := HM.out _ _ hlk
            have HCC := ahid (afar1_there wr (HT.out.keep HR.out.2.2) p m _ K L M HA.out k nm hnm c d hcn x hbd hcx t hlk (by omega))
            have HE0 := ahid (show itE M k (.far x nm) = farE x (t - k) by simp only [itE, hlk])
            have HWD := ahid (show itW M k (.far x nm) = farW x (t - k) by simp only [itW, hlk])
            have hfe := farE_cases x (t - k)
            clear hKc hKd hcn hcx hnm hbd hlk HCL htb hown2
            generalize farW x (t - k) = q at HCC HWD
            generalize farE x (t - k) = ee at HCC HE0 hfe
            rcases hfe with rfl | rfl
            · have HE := HE0
              go_wp2_with fail
              refine HCC.out.mono ?_
              rintro e w4 ⟨rfl, hb4⟩
              have hown2 := HR.out.2.1.kept_below hb4 HR.out.2.2.size
              have HB3 := ahid (HR.out.2.2.trans (hb4.mono HR.out.2.2.size))
              clear hb4
              have hi := HII.out.1
              go_wp2_with (first | (at_builtin; refine wpList_append_own _ rfl _ _ 22 rfl w.heap.size 24 i0 (.int .u32 0) 1 4 Tryz.underlying22 hi HII.out.2.1 HII.out.2.2.1 HII.out.2.2.2 rfl (by decide) _ k (u32s (wordsL M 0 (L.take k))) rfl (hown2.alloc _) ⟨w4.heap.size, 0, none⟩ 1 1 [.int .u32 q] rfl rfl (cell_one_new _ _ _) (by simp [Value.oneCell']) (by unfold maxLen; omega) (by omega) ((HB3.out.alloc HB3.out.size _).size) ?_; intro v' w3 hown3 hgrow3 hnil3))
              obtain ⟨hz3, hl3⟩ := words_step M L k _ HR.out.1 HK.out HE.out
              have hb3 := (HB3.out.alloc HB3.out.size _).grown hgrow3 (by simp; have := HB3.out.size; omega) (fun i hi => (HR.out.2.1.lt i hi).1)
              have hr3 : w3.ownsRow w.heap.size 24 1 v' (k + 1) (u32s (wordsL M 0 (L.take (k + 1)))) := by rw [hl3, HWD.out]; simpa [u32s] using hown3
              clear hl3
              go_roundw
              case rel => exact ⟨k + 1, v', by omega, by go_num, rfl, hz3, hr3, hb3⟩
              case measure => simp [intOf]; omega
            · go_wp2_with fail
              refine HCC.out.mono ?_
              rintro e w4 ⟨rfl, hb4⟩
              have HB4 := ahid hb4
              clear hb4
              go_wp2_with fail
              go_ret2
              exact WordsOk.stop HR.out.1 HK.out HE0.out (by decide) (HR.out.2.2.trans (HB4.out.mono HR.out.2.2.size))
      · obtain rfl : k = L.length := by omega
        have hkL : ¬ ((L.length : Int) < L.length) := by omega
        go_wp2_with fail
        go_ret2
        have hz := HR.out.1
        have hr := HR.out.2.1
        rw [List.take_length] at hz hr
        exact ⟨ov, wordsL M 0 L, by rw [hz]; rfl, by rw [hz, if_pos rfl], by rw [wordsL_len]; exact hr, HR.out.2.2⟩
end Go.Proofs.YtajholbcpmjhiaaGreatDoor
/- Walks of the package asm: far whatever it is given; Jump, Call. -/
namespace Go.Proofs.YtajholbcpmjhiaaGreatDoor
open Go.RowKit Go.Maps
def FarOk (w : World) (p : Nat) (sv : Value) (m : Nat) (K : Nat → Prop) (L : List It) (M : List (List UInt8 × Int)) (x : Ix) (nm : ByteArray) (e : Ending) (w' : World) : Prop :=
  if mayP x then e = .returned (.int .i64 0) ∧ AddOk w p sv m K L M [.far x nm] w' else e = .returned (.int .i64 2) ∧ Below w.heap.size w w'
set_option maxRecDepth 100000 in
set_option maxHeartbeats 1000000 in
theorem afar_any (w : World) (ht : Tab w) (p m : Nat) (sv : Value) (K : Nat → Prop) (L : List It) (M : List (List UInt8 × Int)) (h : AsmAt w p sv m K L M) (x : Ix) (hx : x.bd) (nm : ByteArray) (hs : nm.size ≤ maxLen) (hL : L.length < 4294967296) :
    Calls Tryz.prog 185 #[.pointer (some ⟨p, 0, none⟩), x.agg, .string nm] w (FarOk w p sv m K L M x nm) := by
  by_cases hm : mayP x
  · exact (afar_put w ht p m sv K L M h x hx hm nm hs hL).mono fun e w' hh => by unfold FarOk; rw [if_pos hm]; exact hh
  · have hE := fun W hW => encode_any x hx W hW
    rw [show encE x = 2 from if_neg hm] at hE
    have hfin : ∀ w', Below w.heap.size w w' → FarOk w p sv m K L M x nm (.returned (.int .i64 2)) w' := fun w' hb => by unfold FarOk; rw [if_neg hm]; exact ⟨rfl, hb⟩
    have HF := ahid hfin
    have HE := ahid hE
    have H := ahid h
    have HT := ahid ht
    clear h ht hfin hE hx hm hs
    obtain ⟨op, rd, rs1, rs2, is, imm⟩ := x
    go_enter Tryz.func185, Tryz.ntmps185
    go_wp2_with fail
    have hb1 : Below w.heap.size w ((w.alloc (.cells #[.int .u8 op, .int .u8 rd, .int .u8 rs1, .int .u8 rs2, .bool is, .int .i32 imm] 41)).alloc (.cells #[.string nm] 9)) := ((Below.refl _ _).alloc (Nat.le_refl _) _).alloc (by simp) _
    have d0 : ∀ (i : Nat) (u : Value), (Ix.mk op rd rs1 rs2 is imm).agg.cells[i]? = some u → ((w.alloc (.cells #[.int .u8 op, .int .u8 rd, .int .u8 rs1, .int .u8 rs2, .bool is, .int .i32 imm] 41)).alloc (.cells #[.string nm] 9)).cell? ⟨w.heap.size, i, none⟩ = some u := fun i u hu => by
      refine Lib.cell?_alloc_some _ ?_
      simp only [World.cell?, (MapKept.heap_alloc w _).1]
      simpa [Value.cells] using hu
    generalize (w.alloc (.cells #[.int .u8 op, .int .u8 rd, .int .u8 rs1, .int .u8 rs2, .bool is, .int .i32 imm] 41)).alloc (.cells #[.string nm] 9) = w1 at *
    have HA1 := ahid (H.out.keep (Only.of_below (S := fun _ => False) hb1) (fun _ _ h => h) (fun _ _ h => h))
    have HT1 := ahid (HT.out.keep hb1)
    have HB1 := ahid hb1
    clear hb1
    obtain ⟨_, c1, _, _⟩ := HA1.out.cells
    have e0 := d0 0 _ rfl
    have e1 := d0 1 _ rfl
    have e2 := d0 2 _ rfl
    have e3 := d0 3 _ rfl
    have e4 := d0 4 _ rfl
    have e5 := d0 5 _ rfl
    clear d0
    refine (anone_made w1 p m c1).mono ?_
    rintro e w' ⟨rfl, rfl⟩
    go_wp2_with fail
    refine (HE.out _ HT1.out).mono ?_
    rintro e w2 ⟨rfl, bl⟩
    have HB2 := ahid (HB1.out.trans (bl.mono HB1.out.size))
    clear bl
    go_wp2_with fail
    go_ret
    exact HF.out _ HB2.out
theorem jump_bd {c : Int} (h0 : 0 ≤ c) (h1 : c < 256) : (Ix.mk 17 c 0 0 true 0).bd := by unfold Ix.bd; simp only; omega
theorem jump_may {c : Int} (h0 : 0 ≤ c) : mayP (Ix.mk 17 c 0 0 true 0) ↔ c ≤ 6 := by
  have hk : kindS 17 = 4 := by decide
  unfold mayP okS
  simp only [hk]
  constructor
  · intro h; have := h.2.2.2; simp at this; exact this
  · intro h; refine ⟨by omega, by omega, by omega, ?_⟩; simp; exact h
set_option maxRecDepth 100000 in
theorem ajump_any (w : World) (ht : Tab w) (p m : Nat) (sv : Value) (K : Nat → Prop) (L : List It) (M : List (List UInt8 × Int)) (h : AsmAt w p sv m K L M) (c : Int) (hc0 : 0 ≤ c) (hc1 : c < 256) (nm : ByteArray) (hs : nm.size ≤ maxLen) (hL : L.length < 4294967296) :
    Calls Tryz.prog 116 #[.pointer (some ⟨p, 0, none⟩), .int .u8 c, .string nm] w (FarOk w p sv m K L M ⟨17, c, 0, 0, true, 0⟩ nm) := by
  have HC := ahid (afar_any w ht p m sv K L M h ⟨17, c, 0, 0, true, 0⟩ (jump_bd hc0 hc1) nm hs hL)
  clear h ht hs hL hc0 hc1
  go_enter Tryz.func116, Tryz.ntmps116
  go_wp2_with fail
  refine HC.out.mono ?_
  intro e w' hh
  have : e = .returned (.int .i64 (if mayP ⟨17, c, 0, 0, true, 0⟩ then 0 else 2)) := by unfold FarOk at hh; split at hh <;> simp_all
  subst this
  have HH := ahid hh
  clear hh
  generalize (if mayP ⟨17, c, 0, 0, true, 0⟩ then (0 : Int) else 2) = q at *
  go_wp2_with fail
  go_ret
  exact HH.out
end Go.Proofs.YtajholbcpmjhiaaGreatDoor
/- Walks of the package asm: Const. -/
namespace Go.Proofs.YtajholbcpmjhiaaGreatDoor
open Go.RowKit Go.Maps
def Ix.cells (x : Ix) : List Value := [.int .u8 x.op, .int .u8 x.rd, .int .u8 x.rs1, .int .u8 x.rs2, .bool x.is, .int .i32 x.imm]
theorem Ix.cells_len (x : Ix) : x.cells.length = 6 := rfl
theorem InsAt.of_cells {w : World} {b o : Nat} {x : Ix} (hx : x.bd) (h : ∀ j u, x.cells[j]? = some u → w.cell? ⟨b, o + j, none⟩ = some u) : InsAt w b o x :=
  ⟨h 0 _ rfl, h 1 _ rfl, h 2 _ rfl, h 3 _ rfl, h 4 _ rfl, h 5 _ rfl, hx⟩
theorem InsIn.of_row {w : World} {p : Nat} {cap : Nat} {l : List Ix} (hb : ∀ x ∈ l, x.bd) (hm : l.length ≤ maxLen) (h : ∀ (j : Nat) u, (l.flatMap Ix.cells)[j]? = some u → w.cell? ⟨p, j, none⟩ = some u) : InsIn w (.slice (some ⟨p, 0, none⟩) l.length cap) l := by
  refine ⟨hm, _, cap, p, 0, rfl, fun _ => rfl, fun k x hx => InsAt.of_cells (hb x (List.mem_of_getElem? hx)) fun j u hu => ?_⟩
  rw [Nat.zero_add]
  refine h _ _ ?_
  have hj : j < 6 := by
    rcases Nat.lt_or_ge j 6 with h | h
    · exact h
    · rw [List.getElem?_eq_none (by rw [Ix.cells_len]; exact h)] at hu; cases hu
  rw [flat_get Ix.cells 6 Ix.cells_len l k j x hx hj]; exact hu
end Go.Proofs.YtajholbcpmjhiaaGreatDoor
/- What the runtime's handlers are: plain lists of instructions. No program in sight. -/
namespace Go.Proofs.YtajholbcpmjhiaaGreatDoor
open Go.RowKit
def aluI (op rd rs n : Int) : Ix := ⟨1 + op, rd, rs, 0, true, n⟩
def bothI (op rd a b : Int) : Ix := ⟨1 + op, rd, a, b, false, 0⟩
def ldI (rd rs at' : Int) : Ix := ⟨22, rd, rs, 0, true, at'⟩
def stI (rd rs at' : Int) : Ix := ⟨23, rd, rs, 0, true, at'⟩
def cmpI (rs n : Int) : Ix := ⟨16, 0, rs, 0, true, n⟩
instance decIxBd (x : Ix) : Decidable x.bd := by unfold Ix.bd; infer_instance
def okI (x : Ix) : Prop := x.bd ∧ mayP x
instance decOkI (x : Ix) : Decidable (okI x) := by unfold okI; infer_instance
def allI (l : List Ix) : Prop := ∀ x ∈ l, okI x
instance decAllI (l : List Ix) : Decidable (allI l) := by unfold allI; infer_instance
structure Bs where
  L : List It
  M : List (List UInt8 × Int)
def Bs.put (s : Bs) (l : List Ix) : Bs := { s with L := s.L ++ l.map .put }
def Bs.jump (s : Bs) (c : Int) (nm : List UInt8) : Bs := { s with L := s.L ++ [.far ⟨17, c, 0, 0, true, 0⟩ ⟨nm.toArray⟩] }
def Bs.mark (s : Bs) (nm : List UInt8) : Bs := { s with M := s.M ++ [(nm, (s.L.length : Int))] }
def eachI (op : Int) (i : Nat) : Ix := ⟨op, (i : Int) + 16, 14, 0, true, 4 * (i : Int)⟩
def Bs.each (s : Bs) (op : Int) : Nat → Bs
  | 0 => s
  | n + 1 => (s.each op n).put [eachI op n]
theorem each_ok : ∀ i : Nat, i < 16 → allI [eachI 23 i] ∧ allI [eachI 22 i] := by decide
theorem Bs.each_M (s : Bs) (op : Int) : ∀ n, (s.each op n).M = s.M
  | 0 => rfl
  | n + 1 => s.each_M op n
theorem Bs.each_len (s : Bs) (op : Int) : ∀ n, (s.each op n).L.length = s.L.length + n
  | 0 => rfl
  | n + 1 => by
    have ih := s.each_len op n
    show ((s.each op n).L ++ _).length = _
    rw [List.length_append, ih]; simp; omega
theorem Bs.put_len (s : Bs) (l : List Ix) : (s.put l).L.length = s.L.length + l.length := by
  show (s.L ++ _).length = _
  rw [List.length_append, List.length_map]
end Go.Proofs.YtajholbcpmjhiaaGreatDoor
