/- Several texts in one: AsmPut, Row32, AsmWords, AsmConst, BootSpec, VRow, ARow. -/
import Derived.Test.YtajholbcpmjhiaaGreatDoorH06
import Derived.Laws.Rows
set_option linter.unusedVariables false
set_option linter.unusedSimpArgs false
/- Walks of the package asm: Put. -/
namespace Go.Proofs.YtajholbcpmjhiaaGreatDoor
open Go.RowKit Go.Maps
theorem cell_one_new2 (w : World) (A : Obj) (v : Value) (T : TypeId) : ∀ (j : Nat) u, [v][j]? = some u → ((w.alloc A).alloc (.cells #[v] T)).cell? ((⟨w.heap.size + 1, 0, none⟩ : Addr).add j) = some u := by
  have h := cell_one_new (w.alloc A) v T
  rw [show (w.alloc A).heap.size = w.heap.size + 1 by simp] at h
  exact h
theorem PutOk.yes {w w' : World} {p m : Nat} {sv : Value} {K : Nat → Prop} {L : List It} {M : List (List UInt8 × Int)} {l : List Ix} (h : ∀ x ∈ l, mayP x) (h2 : AddOk w p sv m K L M (l.map .put) w') : PutOk w p sv m K L M l (.returned (.int .i64 0)) w' := by
  unfold PutOk; rw [if_pos h]; exact ⟨rfl, h2⟩
set_option maxRecDepth 100000 in
set_option maxHeartbeats 2000000 in
theorem aput_any (w : World) (ht : Tab w) (p m : Nat) (sv : Value) (K : Nat → Prop) (L : List It) (M : List (List UInt8 × Int)) (h : AsmAt w p sv m K L M) (v : Value) (l : List Ix) (hl : InsIn w v l) (hL : L.length + l.length < 4294967296) :
    Calls Tryz.prog 29 #[.pointer (some ⟨p, 0, none⟩), v] w (PutOk w p sv m K L M l) := by
  obtain ⟨c0, c1, f0, f1⟩ := h.cells
  obtain ⟨hlm, pv, cv, b, o, rfl, hpv, hins⟩ := hl
  have HN := ahid (anone_made w p m c1)
  have H := ahid h
  have HT := ahid ht
  have HI := ahid hins
  have HP := ahid hpv
  clear h ht hins hpv c0 c1 f0 f1
  unfold maxLen at hlm
  obtain ⟨i0, hi, hz0, hz1, hz2⟩ := info_parts infow
  have HII := ahid (And.intro hi (And.intro hz0 (And.intro hz1 hz2)))
  clear hi hz0 hz1 hz2
  have HS := ahid (PutAt.start w l)
  go_enter Tryz.func29, Tryz.ntmps29
  go_wp2_with fail
  refine HN.out.mono ?_
  rintro e w' ⟨rfl, rfl⟩
  go_wp2_with fail
  go_loopw [5, 14] (fun v5 i wr => ∃ (k : Nat) (mv : Value), k ≤ l.length ∧ i = .int .i64 k ∧ mv = v5 ∧ PutAt w l mv k wr) (fun _ i _ => l.length - (intOf i).toNat)
  case atStart => exact ⟨0, _, Nat.zero_le _, rfl, rfl, HS.out⟩
  case round =>
    obtain ⟨k, mv, hk, rfl, rfl, HR⟩ := hrel
    replace HR := ahid HR
    by_cases hlt : k < l.length
    · obtain ⟨x, hx⟩ : ∃ x, l[k]? = some x := ⟨_, List.getElem?_eq_getElem hlt⟩
      obtain rfl := HP.out (by omega)
      have hxi := (HI.out k x hx).keepb HR.out.below
      have c0 := hxi.c0
      have c1 := hxi.c1
      have c2 := hxi.c2
      have c3 := hxi.c3
      have c4 := hxi.c4
      have c5 := hxi.c5
      have HX := ahid hx
      have HB := ahid hxi.bd
      clear hx hxi
      have hE := ahid (fun W hW => encode_any x HB.out W hW)
      have hkn : (k : Int) < l.length := by omega
      obtain ⟨op, rd, rs1, rs2, is, imm⟩ := x
      go_wp2_with fail
      have hb1 : Below wr.heap.size wr (wr.alloc (.cells #[.int .u8 op, .int .u8 rd, .int .u8 rs1, .int .u8 rs2, .bool is, .int .i32 imm] 41)) := (Below.refl _ _).alloc (Nat.le_refl _) _
      have hsz1 : (wr.alloc (.cells #[.int .u8 op, .int .u8 rd, .int .u8 rs1, .int .u8 rs2, .bool is, .int .i32 imm] 41)).heap.size = wr.heap.size + 1 := by simp
      have HB1 := ahid (And.intro hb1 hsz1)
      clear hb1 hsz1 c0 c1 c2 c3 c4 c5
      generalize wr.alloc (.cells #[.int .u8 op, .int .u8 rd, .int .u8 rs1, .int .u8 rs2, .bool is, .int .i32 imm] 41) = w1 at *
      refine (hE.out w1 ((HT.out.keep HR.out.below).keep (HB1.out.1.mono HR.out.below.size |> fun b => by exact HB1.out.1))).mono ?_
      rintro e w2 ⟨rfl, bl⟩
      have HB2 := ahid (And.intro (HB1.out.1.trans (bl.mono HB1.out.1.size)) (by have := bl.size; have := HB1.out.2; omega : wr.heap.size < w2.heap.size))
      clear bl HB1
      by_cases hm : mayP ⟨op, rd, rs1, rs2, is, imm⟩
      · have he : encE ⟨op, rd, rs1, rs2, is, imm⟩ = 0 := if_pos hm
        rw [he]
        have HM := ahid hm
        clear he hm
        obtain ⟨vs, C, hown, hlen, hvs, hC⟩ := HR.out.ex
        have HV := ahid (And.intro hown (And.intro hlen (And.intro hvs hC)))
        clear hown hlen hvs hC
        have hown2 := HV.out.1.keepw (Only.of_below (S := fun _ => False) HB2.out.1) (fun _ _ h => h)
        generalize hq : encS ⟨op, rd, rs1, rs2, is, imm⟩ = q
        have HQ := ahid hq
        clear hq
        have hi := HII.out.1
        go_wp2_with (first | (at_builtin; refine wpList_append_place _ rfl _ _ 134 rfl 150 i0 _ 8 Tryz.underlying134 hi HII.out.2.1 HII.out.2.2.1 HII.out.2.2.2 rfl mv k vs rfl ((hown2.alloc _).alloc _) ⟨w2.heap.size + 1, 0, none⟩ 1 1 [.func (.func 80) #[] #[.pointer (some ⟨w2.heap.size, 0, none⟩)]] rfl rfl (cell_one_new2 _ _ _ _) (by simp [Value.oneCell']) (by unfold maxLen; omega) (by omega) ?_; intro v' w3 hown3 hgrow3 hpl3))
        have hb3 : Below wr.heap.size wr ((w2.alloc (.cells #[.int .u32 q] 24)).alloc (.cells #[.func (.func 80) #[] #[.pointer (some ⟨w2.heap.size, 0, none⟩)]] 150)) := (HB2.out.1.alloc (Nat.le_of_lt HB2.out.2) _).alloc (by have := HB2.out.2; simp; omega) _
        have hmore := HR.out.more HX.out HM.out hb3 w2.heap.size (Nat.le_of_lt HB2.out.2) (by simp; omega) (by rw [HQ.out]; simp [go_sem]) HV.out.1 HV.out.2.1 HV.out.2.2.1 HV.out.2.2.2 hown3 hgrow3 hpl3
        go_roundw
        case rel => exact ⟨k + 1, v', by omega, by go_num, rfl, hmore⟩
        case measure => simp [intOf]; omega
      · have he : encE ⟨op, rd, rs1, rs2, is, imm⟩ = 2 := if_neg hm
        rw [he]
        have hbf : Below w.heap.size w w2 := HR.out.below.trans (HB2.out.1.mono HR.out.below.size)
        have hfin : ∀ (o : Obj), PutOk w p sv m K L M l (.returned (.int .i64 2)) (w2.alloc o) := fun o => by
          unfold PutOk
          rw [if_neg (fun h => hm (h _ (List.mem_of_getElem? HX.out)))]
          exact ⟨rfl, hbf.alloc hbf.size _⟩
        have HF := ahid hfin
        clear hfin hbf he hm HR
        generalize encS ⟨op, rd, rs1, rs2, is, imm⟩ = q
        go_wp2_with fail
        go_ret
        exact HF.out _
    · obtain rfl : k = l.length := by omega
      have hkn : ¬ ((l.length : Int) < l.length) := by omega
      have HA := ahid (H.out.keep (Only.of_below (S := fun _ => False) HR.out.below) (fun _ _ h => h) (fun _ _ h => h))
      obtain ⟨c0, c1, f0, f1⟩ := HA.out.cells
      have hall : ∀ x ∈ l, mayP x := fun x hx => by
        obtain ⟨i, hi, he⟩ := List.mem_iff_getElem.1 hx
        exact HR.out.may i x hi (by rw [List.getElem?_eq_getElem hi, he])
      obtain ⟨us, hus1, hus2, hus3⟩ := (H.out.trim.keep (Only.of_below (S := fun _ => False) HR.out.below) (fun _ _ h => h) (fun _ _ h => h)).row
      obtain ⟨vs, C, hown, hlen, hvs, hC⟩ := HR.out.ex
      have hi := HII.out.1
      have HC := ahid hC
      have HV := ahid hvs
      have HL := ahid hall
      have HU := ahid (And.intro hus2 hus3)
      have hor := hown.2
      clear hC hvs hall hus2 hus3
      rcases hor with ⟨rfl, hl0⟩ | ⟨g, cap, cur, rfl, hrest⟩
      · have HL0 := ahid hl0
        clear hl0
        rcases HA.out.slice with ⟨rfl, _⟩ | ⟨gs, caps, rfl, _⟩
        all_goals
          go_wp2_with (first | (at_builtin; refine wpList_append_own_none rfl _ _ 134 rfl 0 150 i0 1 Tryz.underlying134 hi _ L.length us rfl hus1 rfl ?_))
          go_ret
          refine PutOk.yes HL.out ?_
          refine PutAt.fin H.out HR.out hlen HV.out HC.out HU.out.1 HU.out.2 ?_ ⟨rfl, rfl, rfl, Nat.le_refl _, fun _ _ _ => rfl⟩ (.inl rfl)
          obtain rfl : vs = [] := List.eq_nil_of_length_eq_zero (by rw [hlen]; exact HL0.out)
          rw [HL0.out, Nat.add_zero, List.append_nil]
          exact hus1
      · have hcl := hown.cells rfl
        have h1c : ∀ u ∈ vs, u.oneCell' = true := fun u hu => by
          obtain ⟨i, hi, he⟩ := List.mem_iff_getElem.1 hu
          obtain ⟨c, hc, _⟩ := HV.out i u l[i] (by rw [List.getElem?_eq_getElem hi, he]) (List.getElem?_eq_getElem (by omega))
          rw [hc]; simp [Value.oneCell']
        have HCL := ahid (And.intro hcl h1c)
        clear hcl h1c hrest
        go_wp2_with (first | (at_builtin; refine wpList_append_place _ rfl _ _ 134 rfl 150 i0 _ 8 Tryz.underlying134 hi HII.out.2.1 HII.out.2.2.1 HII.out.2.2.2 rfl sv L.length us rfl hus1 ⟨g, 0, none⟩ l.length cap vs rfl (by rw [hlen, Nat.mul_one]) HCL.out.1 HCL.out.2 (by unfold maxLen; omega) (by omega) ?_; intro v' w3 hown3 hgrow3 hpl3; have o3 : Only (fun k => sv.ownBlock = some k) wr w3 := ((Only.refl _ wr)).grown hgrow3 (fun k hk _ => hk.symm ▸ rfl); have c3 := (o3.cell (p := ⟨p, 0, none⟩) (lt_of_block HA.out.ptr) HA.out.ne.2.1).trans c0; have f3 := (World.frozen?_of_block (a := ⟨p, 0, none⟩) (o3.block p (lt_of_block HA.out.ptr) HA.out.ne.2.1)).trans f0; replace hgrow3 := ahid hgrow3; replace hpl3 := ahid hpl3; rcases hown3.2 with ⟨rfl, _⟩ | ⟨g3, cap3, _, rfl, _⟩))
        all_goals
          go_ret
          refine PutOk.yes HL.out ?_
          exact PutAt.fin H.out HR.out hlen HV.out HC.out HU.out.1 HU.out.2 hown3 hgrow3.out hpl3.out
end Go.Proofs.YtajholbcpmjhiaaGreatDoor
/- The walk of muntinref03.Same: are two rows of words the same? -/
namespace Go.Proofs.YtajholbcpmjhiaaGreatDoor
open Go.RowKit
def Reads32 (w : World) (v : Value) (l : List Int) : Prop :=
  l.length ≤ maxLen ∧ ∃ p c, v = .slice p l.length c ∧ (0 < l.length → ∃ b o, p = some ⟨b, o, none⟩ ∧ ∀ k, k < l.length → w.cell? ⟨b, o + k, none⟩ = some (.int .u32 (l.getD k 0)))
theorem Reads32.shape {w : World} {v : Value} {l : List Int} (h : Reads32 w v l) : ∃ b o p c, v = .slice p l.length c ∧ l.length ≤ maxLen ∧ (0 < l.length → p = some ⟨b, o, none⟩) ∧ ∀ k, k < l.length → w.cell? ⟨b, o + k, none⟩ = some (.int .u32 (l.getD k 0)) := by
  obtain ⟨h1, p, c, rfl, h2⟩ := h
  by_cases h0 : 0 < l.length
  · obtain ⟨b, o, rfl, h3⟩ := h2 h0
    exact ⟨b, o, _, c, rfl, h1, fun _ => rfl, h3⟩
  · exact ⟨0, 0, p, c, rfl, h1, fun h => absurd h h0, fun k hk => by omega⟩
theorem Reads32.keepb {a b : World} {v : Value} {l : List Int} (h : Reads32 a v l) (hb : Below a.heap.size a b) : Reads32 b v l := by
  obtain ⟨h1, p, c, rfl, h2⟩ := h
  refine ⟨h1, p, c, rfl, fun h0 => ?_⟩
  obtain ⟨g, o, rfl, h3⟩ := h2 h0
  exact ⟨g, o, rfl, fun k hk => (hb.cell (World.block_lt_of_cell? _ _ (h3 k hk))).trans (h3 k hk)⟩
theorem Reads32.shape' {w : World} {v : Value} {l : List Int} (h : Reads32 w v l) : ∃ p n c, v = .slice p n c := by obtain ⟨_, p, c, h, _⟩ := h; exact ⟨_, _, _, h⟩
theorem Reads32.keepO {S : Nat → Prop} {a b : World} {v : Value} {l : List Int} (h : Reads32 a v l) (o : Only S a b) (hS : ∀ k, v.ownBlock = some k → ¬ S k) : Reads32 b v l := by
  obtain ⟨h1, p, c, rfl, h2⟩ := h
  refine ⟨h1, p, c, rfl, fun h0 => ?_⟩
  obtain ⟨g, q, rfl, h3⟩ := h2 h0
  exact ⟨g, q, rfl, fun k hk => (o.cell (p := ⟨g, q + k, none⟩) (World.block_lt_of_cell? _ _ (h3 k hk)) (hS g rfl)).trans (h3 k hk)⟩
theorem Reads32.of_own {w : World} {base : Nat} {v : Value} {l : List Int} (h : w.ownsRow base 24 1 v l.length (u32s l)) : Reads32 w v l := by
  rcases h.2 with ⟨h1, h2⟩ | ⟨g, cap, cur, h1, h2, h3, h4, h5, h6, h7⟩
  · obtain rfl := List.length_eq_zero_iff.1 h2
    exact ⟨by unfold maxLen; simp, none, 0, h1, fun h => by simp at h⟩
  · refine ⟨by omega, _, cap, h1, fun _ => ⟨g, 0, rfl, fun k hk => ?_⟩⟩
    rw [Nat.zero_add, cell_of_obj h3]
    have e : cur[k]? = (cur.toList.take (l.length * 1))[k]? := by
      rw [List.getElem?_take_of_lt (by omega)]; simp
    rw [e, h7]
    simp [u32s, hk]
set_option maxHeartbeats 1000000 in
theorem same_any (w : World) (u v : Value) (a b : List Int) (hu : Reads32 w u a) (hv : Reads32 w v b) :
    Calls Tryz.prog 22 #[u, v] w fun e w' => e = .returned (.bool (decide (a = b))) ∧ Below w.heap.size w w' := by
  obtain ⟨ba, oa, pa, ca, rfl, la, qa, ha⟩ := hu.shape
  obtain ⟨bb, ob, pb, cb, rfl, lb, qb, hb⟩ := hv.shape
  unfold maxLen at la lb
  have QA := mhid (And.intro qa ha)
  have QB := mhid (And.intro qb hb)
  clear qa ha qb hb hu hv
  by_cases hl : a.length = b.length
  · have hneq : ((a.length : Int) != (b.length : Int)) = false := by simp [hl]
    have HL := mhid hl
    clear hl
    go_enter Tryz.func22, Tryz.ntmps22
    go_wp2_with fail
    go_loopw [5] (fun i wr => ∃ k : Nat, k ≤ a.length ∧ i = .int .i64 k ∧ a.take k = b.take k ∧ (∃ n, wr = w.drewN n)) (fun i _ => a.length - (intOf i).toNat)
    case atStart => exact ⟨0, Nat.zero_le _, rfl, rfl, 0, rfl⟩
    case round =>
      obtain ⟨k, hk, rfl, htk, n, rfl⟩ := hrel
      have HT := mhid htk
      clear htk
      by_cases hlt : k < a.length
      · have hlb : k < b.length := by rw [← HL.out]; exact hlt
        obtain rfl := QA.out.1 (by omega)
        obtain rfl := QB.out.1 (by omega)
        have c1 := QA.out.2 k hlt
        have c2 := QB.out.2 k hlb
        have hx : a.getD k 0 = a[k] := by simp [List.getD_eq_getElem?_getD, hlt]
        have hy : b.getD k 0 = b[k] := by simp [List.getD_eq_getElem?_getD, hlb]
        have t1 := List.take_succ_eq_append_getElem hlt
        have t2 := List.take_succ_eq_append_getElem hlb
        have h1 : (k : Int) < a.length := by omega
        have h2 : (k : Int) < b.length := by omega
        by_cases hxy : a.getD k 0 = b.getD k 0
        · have hab : a.take (k + 1) = b.take (k + 1) := by rw [t1, t2, HT.out, ← hx, ← hy, hxy]
          have HA := mhid hab
          rw [hxy] at c1
          clear hab t1 t2 hx hy hxy
          generalize b.getD k 0 = y at c1 c2
          go_wp2_with fail
          go_quiet (fail)
          go_wp2_with fail
          exact ⟨⟨k + 1, by omega, by go_num, HA.out, _, rfl⟩, by simp [intOf] <;> omega⟩
        · have hab : a ≠ b := fun e => hxy (by rw [e])
          have HA := mhid hab
          clear hab t1 t2 hx hy
          generalize b.getD k 0 = y at c2 hxy
          generalize a.getD k 0 = x at c1 hxy
          have hne : (x != y) = true := by simpa using hxy
          go_wp2_with fail
          go_quiet (fail)
          go_wp2_with fail
          go_ret
          exact ⟨mret_val (by rw [decide_eq_false HA.out]; rfl), Go.below_drewN (Go.below_drewN (Below.refl _ _) n) _⟩
      · obtain rfl : k = a.length := by omega
        have hab : a = b := by
          have h1 := HT.out
          rw [List.take_length, HL.out, List.take_length] at h1; exact h1
        have HA := mhid hab
        clear hab
        go_wp2_with fail
        go_ret
        exact ⟨mret_val (by rw [decide_eq_true HA.out]; rfl), Go.below_drewN (Below.refl _ _) n⟩
  · have hneq : ((a.length : Int) != (b.length : Int)) = true := by simp; omega
    have hab : a ≠ b := fun e => hl (by rw [e])
    have HA := mhid hab
    clear hab hl
    go_enter Tryz.func22, Tryz.ntmps22
    go_wp2_with fail
    go_ret
    exact ⟨mret_val (by rw [decide_eq_false HA.out]; rfl), Below.refl _ _⟩
end Go.Proofs.YtajholbcpmjhiaaGreatDoor
/- Walks of the package asm: Words. -/
namespace Go.Proofs.YtajholbcpmjhiaaGreatDoor
open Go.RowKit Go.Maps
def itW (M : List (List UInt8 × Int)) (i : Int) : It → Int
  | .put x => encS x
  | .far x nm => match look M nm.data.toList with | none => 0 | some t => farW x (t - i)
def itE (M : List (List UInt8 × Int)) (i : Int) : It → Int
  | .put x => 0
  | .far x nm => match look M nm.data.toList with | none => 7 | some t => farE x (t - i)
def wordsL (M : List (List UInt8 × Int)) : Nat → List It → List Int
  | _, [] => []
  | i, it :: L => itW M i it :: wordsL M (i + 1) L
def wordsE (M : List (List UInt8 × Int)) : Nat → List It → Int
  | _, [] => 0
  | i, it :: L => if itE M i it = 0 then wordsE M (i + 1) L else itE M i it
theorem wordsL_len (M : List (List UInt8 × Int)) : ∀ (L : List It) (i : Nat), (wordsL M i L).length = L.length := by
  intro L; induction L with
  | nil => intro i; rfl
  | cons x L ih => intro i; simp [wordsL, ih]
theorem wordsL_snoc (M : List (List UInt8 × Int)) (it : It) : ∀ (L : List It) (i : Nat), wordsL M i (L ++ [it]) = wordsL M i L ++ [itW M (i + L.length : Nat) it] := by
  intro L; induction L with
  | nil => intro i; simp [wordsL]
  | cons x L ih => intro i; simp only [List.cons_append, wordsL, ih, List.length_cons]; rw [show i + 1 + L.length = i + (L.length + 1) by omega]
theorem wordsE_append (M : List (List UInt8 × Int)) : ∀ (L L2 : List It) (i : Nat), wordsE M i (L ++ L2) = if wordsE M i L = 0 then wordsE M (i + L.length) L2 else wordsE M i L := by
  intro L; induction L with
  | nil => intro L2 i; simp [wordsE]
  | cons x L ih =>
    intro L2 i
    simp only [List.cons_append, wordsE, ih, List.length_cons]
    rw [show i + 1 + L.length = i + (L.length + 1) by omega]
    by_cases h : itE M i x = 0
    · simp [h]
    · simp [h]
theorem wordsE_stop (M : List (List UInt8 × Int)) (L : List It) (k : Nat) (it : It) (h0 : wordsE M 0 (L.take k) = 0) (hk : L[k]? = some it) (he : itE M k it ≠ 0) : wordsE M 0 L = itE M k it := by
  have hlt : k < L.length := by
    rcases Nat.lt_or_ge k L.length with h | h
    · exact h
    · rw [List.getElem?_eq_none h] at hk; cases hk
  have e : L = L.take k ++ (it :: L.drop (k + 1)) := by
    rw [List.getElem?_eq_getElem hlt] at hk
    cases hk
    rw [← List.drop_eq_getElem_cons hlt, List.take_append_drop]
  rw [e, wordsE_append, if_pos h0, List.length_take, Nat.min_eq_left (by omega), Nat.zero_add, wordsE, if_neg he]
theorem words_step (M : List (List UInt8 × Int)) (L : List It) (k : Nat) (it : It) (h0 : wordsE M 0 (L.take k) = 0) (hk : L[k]? = some it) (he : itE M k it = 0) :
    wordsE M 0 (L.take (k + 1)) = 0 ∧ wordsL M 0 (L.take (k + 1)) = wordsL M 0 (L.take k) ++ [itW M k it] := by
  have hlt : k < L.length := by
    rcases Nat.lt_or_ge k L.length with h | h
    · exact h
    · rw [List.getElem?_eq_none h] at hk; cases hk
  have e : L.take (k + 1) = L.take k ++ [it] := by
    rw [List.getElem?_eq_getElem hlt] at hk
    cases hk
    exact List.take_succ_eq_append_getElem hlt
  rw [e, wordsL_snoc, wordsE_append, if_pos h0, List.length_take, Nat.min_eq_left (by omega), Nat.zero_add]
  exact ⟨by simp [wordsE, he], rfl⟩
def WordsOk (w : World) (L : List It) (M : List (List UInt8 × Int)) (e : Ending) (w' : World) : Prop :=
  ∃ v l, e = .returned (.tuple #[v, .int .i64 (wordsE M 0 L)]) ∧ l = (if wordsE M 0 L = 0 then wordsL M 0 L else []) ∧ w'.ownsRow w.heap.size 24 1 v l.length (u32s l) ∧ Below w.heap.size w w'
theorem WordsOk.stop {w wr : World} {L : List It} {M : List (List UInt8 × Int)} {k : Nat} {it : It} {e : Int} (h0 : wordsE M 0 (L.take k) = 0) (hk : L[k]? = some it) (he : itE M k it = e) (hne : e ≠ 0) (hb : Below w.heap.size w wr) :
    WordsOk w L M (.returned (.tuple #[.slice none 0 0, .int .i64 e])) wr := by
  have h := wordsE_stop M L k it h0 hk (by rw [he]; exact hne)
  rw [he] at h
  exact ⟨_, [], by rw [h], by rw [h, if_neg hne], World.ownsRow_nil _ _ _ _, hb⟩
theorem infou : (Tryz.prog.info? 24).map (fun i => (i.zero, i.size, i.bytes)) = some (some (.int .u32 0), 1, 4) := by kernel_rfl
theorem _root_.Go.World.ownsRow.kept_below {a b : World} {B : Nat} {e : TypeId} {size n : Nat} {v : Value} {xs : List Value} (h : a.ownsRow B e size v n xs) (o : Below a.heap.size a b) (_ : B ≤ a.heap.size) : b.ownsRow B e size v n xs := by
  refine ⟨h.1, ?_⟩
  rcases h.2 with h | ⟨g, cap, cur, e1, e2, e3, e4⟩
  · exact .inl h
  · exact .inr ⟨g, cap, cur, e1, e2, (o.block g (lt_of_block e3)).trans e3, e4⟩
theorem farE_cases (x : Ix) (d : Int) : farE x d = 0 ∨ farE x d = 50 := by unfold farE; split <;> simp
set_option maxRecDepth 100000 in
set_option maxHeartbeats 2000000 in
theorem awords_any (w : World) (ht : Tab w) (p m : Nat) (sv : Value) (K : Nat → Prop) (L : List It) (M : List (List UInt8 × Int)) (h : AsmAt w p sv m K L M) (hL : L.length < 4294967296) (hM : ∀ nm t, look M nm = some t → 0 ≤ t ∧ t < 4294967296) :
    Calls Tryz.prog 31 #[.pointer (some ⟨p, 0, none⟩)] w (WordsOk w L M) := by
  obtain ⟨c0, c1, f0, f1⟩ := h.cells
  have HN := ahid (anone_made w p m c1)
  obtain ⟨i0, hi, hz0, hz1, hz2⟩ := info_parts infou
  have HII := ahid (And.intro hi (And.intro hz0 (And.intro hz1 hz2)))
  clear hi hz0 hz1 hz2
  have HM := ahid hM
  have HT := ahid ht
  have H := ahid h
  clear ht hM h c1 f0 f1
  obtain ⟨vs, hown, hlen, hvs⟩ := H.out.row
  have HV := ahid (And.intro hlen hvs)
  clear hlen hvs
  rcases hown.2 with ⟨rfl, hl0⟩ | ⟨g, cap, cur, rfl, _, hcur, hcap1, hcap2, hsz, htk⟩
  · obtain rfl : L = [] := List.eq_nil_of_length_eq_zero hl0
    clear hown hl0
    go_enter Tryz.func31, Tryz.ntmps31
    go_wp2_with fail
    refine HN.out.mono ?_
    rintro e w' ⟨rfl, rfl⟩
    go_wp2_with fail
    refine wp_loop_rounds 1 ?_
    rw [rounds_succ]
    go_wp2_with fail
    go_ret2
    exact ⟨_, [], rfl, rfl, World.ownsRow_nil _ _ _ _, Below.refl _ _⟩
  · have hcell := hown.cells rfl
    have HC := ahid hcell
    clear hcell hcur hsz htk hown
    have HZ := ahid (World.ownsRow_nil w w.heap.size 24 1)
    unfold maxLen at hcap2
    go_enter Tryz.func31, Tryz.ntmps31
    go_wp2_with fail
    refine HN.out.mono ?_
    rintro e w' ⟨rfl, rfl⟩
    go_wp2_with fail
    go_loopw [4, 16] (fun v4 i wr => ∃ (k : Nat) (ov : Value), k ≤ L.length ∧ i = .int .i64 k ∧ ov = v4 ∧ wordsE M 0 (L.take k) = 0 ∧ wr.ownsRow w.heap.size 24 1 ov k (u32s (wordsL M 0 (L.take k))) ∧ Below w.heap.size w wr) (fun _ i _ => L.length - (intOf i).toNat)
    case atStart => exact ⟨0, _, Nat.zero_le _, rfl, rfl, rfl, HZ.out, Below.refl _ _⟩
    case round =>
      obtain ⟨k, ov, hk, rfl, rfl, hz, hrow, hbel⟩ := hrel
      have HR := ahid (And.intro hz (And.intro hrow hbel))
      clear hz hrow hbel
      by_cases hlt : k < L.length
      · obtain ⟨it, hit⟩ : ∃ it, L[k]? = some it := ⟨_, List.getElem?_eq_getElem hlt⟩
        obtain ⟨u, hu⟩ : ∃ u, vs[k]? = some u := ⟨_, List.getElem?_eq_getElem (by rw [HV.out.1]; exact hlt)⟩
        have hclo := HV.out.2 k u it hu hit
        have hcu := HC.out k u hu
        rw [addr_add0] at hcu
        have hA := H.out.keep (Only.of_below (S := fun _ => False) HR.out.2.2) (fun _ _ h => h) (fun _ _ h => h)
        have cu : wr.cell? ⟨g, k, none⟩ = some u := (HR.out.2.2.cell (p := ⟨g, k, none⟩) (World.block_lt_of_cell? _ _ hcu)).trans hcu
        have hclo2 := hclo.keep (Only.of_below (S := fun _ => False) HR.out.2.2) (fun _ _ h => h) (fun _ _ h => h)
        obtain ⟨_, c1, _, _⟩ := hA.cells
        have HK := ahid hit
        have HCL := ahid hclo2
        have HA := ahid hA
        have hkL : (k : Int) < L.length := by omega
        clear hit hu hclo hcu hclo2 hA
        have hown2 := HR.out.2.1
        cases it with
        | put x =>
          obtain ⟨c, rfl, hKc, hcc⟩ := HCL.out
          have HCC := ahid (fun mv => aput1_any wr K _ x ⟨c, rfl, hKc, hcc⟩ k mv c rfl hcc)
          have HE := ahid (show itE M k (.put x) = 0 from rfl)
          have HWD := ahid (show itW M k (.put x) = encS x from rfl)
          have HB3 := ahid HR.out.2.2
          clear hKc hcc HCL
          generalize encS x = q at HCC HWD
          go_wp2_with fail
          refine (HCC.out _).mono ?_
          rintro e w' ⟨rfl, rfl⟩
          have hi := HII.out.1
          go_wp2_with (first | (at_builtin; refine wpList_append_own _ rfl _ _ 22 rfl w.heap.size 24 i0 (.int .u32 0) 1 4 Tryz.underlying22 hi HII.out.2.1 HII.out.2.2.1 HII.out.2.2.2 rfl (by decide) _ k (u32s (wordsL M 0 (L.take k))) rfl (hown2.alloc _) ⟨wr.heap.size, 0, none⟩ 1 1 [.int .u32 q] rfl rfl (cell_one_new _ _ _) (by simp [Value.oneCell']) (by unfold maxLen; omega) (by omega) ((HB3.out.alloc HB3.out.size _).size) ?_; intro v' w3 hown3 hgrow3 hnil3))
          obtain ⟨hz3, hl3⟩ := words_step M L k _ HR.out.1 HK.out HE.out
          have hb3 := (HB3.out.alloc HB3.out.size _).grown hgrow3 (by simp; have := HB3.out.size; omega) (fun i hi => (HR.out.2.1.lt i hi).1)
          have hr3 : w3.ownsRow w.heap.size 24 1 v' (k + 1) (u32s (wordsL M 0 (L.take (k + 1)))) := by rw [hl3, HWD.out]; simpa [u32s] using hown3
          clear hl3
          go_roundw
          case rel => exact ⟨k + 1, v', by omega, by go_num, rfl, hz3, hr3, hb3⟩
          case measure => simp [intOf]; omega
        | far x nm =>
          obtain ⟨c, d, rfl, hKc, hKd, hcn, hcx, hnm, hbd⟩ := HCL.out
          cases hlk : look M nm.data.toList with
          | none =>
            have HCC := ahid (afar1_lost wr p m _ K L M HA.out k nm hnm c d hcn hlk)
            have HE := ahid (show itE M k (.far x nm) = 7 by simp only [itE, hlk])
            clear hKc hKd hcn hcx hnm hbd hlk HCL hown2
            go_wp2_with fail
            refine HCC.out.mono ?_
            rintro e w' ⟨rfl, rfl⟩
            go_wp2_with fail
            go_ret2
            exact WordsOk.stop HR.out.1 HK.out HE.out (by decide) HR.out.2.2
          | some t =>
            have htb := HM.out _ _ hlk
            have HCC := ahid (afar1_there wr (HT.out.keep HR.out.2.2) p m _ K L M HA.out k nm hnm c d hcn x hbd hcx t hlk (by omega))
            have HE0 := ahid (show itE M k (.far x nm) = farE x (t - k) by simp only [itE, hlk])
            have HWD := ahid (show itW M k (.far x nm) = farW x (t - k) by simp only [itW, hlk])
            have hfe := farE_cases x (t - k)
            clear hKc hKd hcn hcx hnm hbd hlk HCL htb hown2
            generalize farW x (t - k) = q at HCC HWD
            generalize farE x (t - k) = ee at HCC HE0 hfe
            rcases hfe with rfl | rfl
            · have HE := HE0
              go_wp2_with fail
              refine HCC.out.mono ?_
              rintro e w4 ⟨rfl, hb4⟩
              have hown2 := HR.out.2.1.kept_below hb4 HR.out.2.2.size
              have HB3 := ahid (HR.out.2.2.trans (hb4.mono HR.out.2.2.size))
              clear hb4
              have hi := HII.out.1
              go_wp2_with (first | (at_builtin; refine wpList_append_own _ rfl _ _ 22 rfl w.heap.size 24 i0 (.int .u32 0) 1 4 Tryz.underlying22 hi HII.out.2.1 HII.out.2.2.1 HII.out.2.2.2 rfl (by decide) _ k (u32s (wordsL M 0 (L.take k))) rfl (hown2.alloc _) ⟨w4.heap.size, 0, none⟩ 1 1 [.int .u32 q] rfl rfl (cell_one_new _ _ _) (by simp [Value.oneCell']) (by unfold maxLen; omega) (by omega) ((HB3.out.alloc HB3.out.size _).size) ?_; intro v' w3 hown3 hgrow3 hnil3))
              obtain ⟨hz3, hl3⟩ := words_step M L k _ HR.out.1 HK.out HE.out
              have hb3 := (HB3.out.alloc HB3.out.size _).grown hgrow3 (by simp; have := HB3.out.size; omega) (fun i hi => (HR.out.2.1.lt i hi).1)
              have hr3 : w3.ownsRow w.heap.size 24 1 v' (k + 1) (u32s (wordsL M 0 (L.take (k + 1)))) := by rw [hl3, HWD.out]; simpa [u32s] using hown3
              clear hl3
              go_roundw
              case rel => exact ⟨k + 1, v', by omega, by go_num, rfl, hz3, hr3, hb3⟩
              case measure => simp [intOf]; omega
            · go_wp2_with fail
              refine HCC.out.mono ?_
              rintro e w4 ⟨rfl, hb4⟩
              have HB4 := ahid hb4
              clear hb4
              go_wp2_with fail
              go_ret2
              exact WordsOk.stop HR.out.1 HK.out HE0.out (by decide) (HR.out.2.2.trans (HB4.out.mono HR.out.2.2.size))
      · obtain rfl : k = L.length := by omega
        have hkL : ¬ ((L.length : Int) < L.length) := by omega
        go_wp2_with fail
        go_ret2
        have hz := HR.out.1
        have hr := HR.out.2.1
        rw [List.take_length] at hz hr
        exact ⟨ov, wordsL M 0 L, by rw [hz]; rfl, by rw [hz, if_pos rfl], by rw [wordsL_len]; exact hr, HR.out.2.2⟩
end Go.Proofs.YtajholbcpmjhiaaGreatDoor
/- Walks of the package asm: Const. -/
namespace Go.Proofs.YtajholbcpmjhiaaGreatDoor
open Go.RowKit Go.Maps
def Ix.cells (x : Ix) : List Value := [.int .u8 x.op, .int .u8 x.rd, .int .u8 x.rs1, .int .u8 x.rs2, .bool x.is, .int .i32 x.imm]
theorem Ix.cells_len (x : Ix) : x.cells.length = 6 := rfl
theorem InsAt.of_cells {w : World} {b o : Nat} {x : Ix} (hx : x.bd) (h : ∀ j u, x.cells[j]? = some u → w.cell? ⟨b, o + j, none⟩ = some u) : InsAt w b o x :=
  ⟨h 0 _ rfl, h 1 _ rfl, h 2 _ rfl, h 3 _ rfl, h 4 _ rfl, h 5 _ rfl, hx⟩
theorem InsIn.of_row {w : World} {p : Nat} {cap : Nat} {l : List Ix} (hb : ∀ x ∈ l, x.bd) (hm : l.length ≤ maxLen) (h : ∀ (j : Nat) u, (l.flatMap Ix.cells)[j]? = some u → w.cell? ⟨p, j, none⟩ = some u) : InsIn w (.slice (some ⟨p, 0, none⟩) l.length cap) l := by
  refine ⟨hm, _, cap, p, 0, rfl, fun _ => rfl, fun k x hx => InsAt.of_cells (hb x (List.mem_of_getElem? hx)) fun j u hu => ?_⟩
  rw [Nat.zero_add]
  refine h _ _ ?_
  have hj : j < 6 := by
    rcases Nat.lt_or_ge j 6 with h | h
    · exact h
    · rw [List.getElem?_eq_none (by rw [Ix.cells_len]; exact h)] at hu; cases hu
  rw [flat_get Ix.cells 6 Ix.cells_len l k j x hx hj]; exact hu
end Go.Proofs.YtajholbcpmjhiaaGreatDoor
/- What the runtime's handlers are: plain lists of instructions. No program in sight. -/
namespace Go.Proofs.YtajholbcpmjhiaaGreatDoor
open Go.RowKit
instance decIxBd (x : Ix) : Decidable x.bd := by unfold Ix.bd; infer_instance
def okI (x : Ix) : Prop := x.bd ∧ mayP x
instance decOkI (x : Ix) : Decidable (okI x) := by unfold okI; infer_instance
structure Bs where
  L : List It
  M : List (List UInt8 × Int)
def Bs.put (s : Bs) (l : List Ix) : Bs := { s with L := s.L ++ l.map .put }
def Bs.mark (s : Bs) (nm : List UInt8) : Bs := { s with M := s.M ++ [(nm, (s.L.length : Int))] }
theorem Bs.put_len (s : Bs) (l : List Ix) : (s.put l).L.length = s.L.length + l.length := by
  show (s.L ++ _).length = _
  rw [List.length_append, List.length_map]
end Go.Proofs.YtajholbcpmjhiaaGreatDoor
/- Rows of cells that the call made. No function of the program is walked here. -/
namespace Go.Proofs.YtajholbcpmjhiaaGreatDoor
open Go.RowKit
def VRow (w : World) (g : Nat) (t : TypeId) (vs : List Value) : Prop :=
  ∃ cur : Array Value, w.heap[g]? = some (.cells cur t (0, 0)) ∧ ∀ (k : Nat) x, vs[k]? = some x → cur[k]? = some x
namespace VRow
variable {w w' : World} {g : Nat} {t : TypeId} {vs : List Value}
theorem cell (h : VRow w g t vs) {k : Nat} {x : Value} (hx : vs[k]? = some x) : w.cell? ⟨g, k, none⟩ = some x := by
  obtain ⟨cur, hb, hc⟩ := h
  simp [World.cell?, hb, hc k x hx]
theorem frozen (h : VRow w g t vs) (k : Nat) : w.frozen? ⟨g, k, none⟩ = false := by
  obtain ⟨cur, hb, _⟩ := h
  simp [World.frozen?, hb]
theorem lt (h : VRow w g t vs) : g < w.heap.size := by
  obtain ⟨cur, hb, _⟩ := h
  exact (Array.getElem?_eq_some_iff.1 hb).1
theorem of_block (h : VRow w g t vs) (e : w'.heap[g]? = w.heap[g]?) : VRow w' g t vs := by
  obtain ⟨cur, hb, hc⟩ := h
  exact ⟨cur, e.trans hb, hc⟩
theorem keep {B : Nat} (h : VRow w g t vs) (hb : Below B w w') (hg : g < B) : VRow w' g t vs := h.of_block (hb.block g hg)
theorem below (h : VRow w g t vs) (hb : Below w.heap.size w w') : VRow w' g t vs := h.keep hb h.lt
theorem set (h : VRow w g t vs) {k : Nat} (hk : k < vs.length) (v : Value) : VRow (w.setCell ⟨g, k, none⟩ v) g t (vs.set k v) := by
  obtain ⟨cur, hb, hc⟩ := h
  have hk' : k < cur.size := by
    have := hc k _ (List.getElem?_eq_getElem hk)
    exact (Array.getElem?_eq_some_iff.1 this).1
  refine ⟨cur.setIfInBounds k v, ?_, fun j x hx => ?_⟩
  · simp [World.setCell, Array.getElem?_modify, hb]
  · rw [Array.getElem?_setIfInBounds]
    by_cases e : k = j
    · subst e
      rw [List.getElem?_set_self hk] at hx
      simp [hk', hx]
    · rw [if_neg e]
      rw [List.getElem?_set_ne e] at hx
      exact hc j x hx
theorem other (h : VRow w g t vs) {a : Addr} (ha : g ≠ a.block) (v : Value) : VRow (w.setCell a v) g t vs := h.of_block (Below.heap_setCell _ _ _ _ ha)
theorem alloc (h : VRow w g t vs) (o : Obj) : VRow (w.alloc o) g t vs := h.of_block (Below.heap_alloc _ _ _ h.lt)
theorem of_own {base n : Nat} {v : Value} {xs : List Value} (h : w.ownsRow base t 1 v n xs) (hv : v ≠ .slice none 0 0) : ∃ g c, v = .slice (some ⟨g, 0, none⟩) n c ∧ base ≤ g ∧ VRow w g t xs := by
  rcases h.2 with ⟨rfl, _⟩ | ⟨g, cap, cur, rfl, h2, h3, h4, h5, h6, h7⟩
  · exact absurd rfl hv
  · refine ⟨g, cap, rfl, h2, cur, h3, fun k x hx => ?_⟩
    rw [← h7] at hx
    rw [List.getElem?_take] at hx
    split at hx
    · rw [← Array.getElem?_toList]; exact hx
    · cases hx
end VRow
end Go.Proofs.YtajholbcpmjhiaaGreatDoor
/- A block that is known whole. No function of the program is walked here. -/
namespace Go.Proofs.YtajholbcpmjhiaaGreatDoor
open Go.RowKit
def ARow (w : World) (g : Nat) (t : TypeId) (vs : List Value) : Prop := w.heap[g]? = some (.cells vs.toArray t (0, 0))
namespace ARow
variable {w w' : World} {g : Nat} {t : TypeId} {vs : List Value}
theorem vrow (h : ARow w g t vs) : VRow w g t vs := ⟨_, h, fun k x hx => by simpa using hx⟩
theorem cell (h : ARow w g t vs) {k : Nat} {x : Value} (hx : vs[k]? = some x) : w.cell? ⟨g, k, none⟩ = some x := h.vrow.cell hx
theorem frozen (h : ARow w g t vs) (k : Nat) : w.frozen? ⟨g, k, none⟩ = false := h.vrow.frozen k
theorem lt (h : ARow w g t vs) : g < w.heap.size := h.vrow.lt
theorem of_block (h : ARow w g t vs) (e : w'.heap[g]? = w.heap[g]?) : ARow w' g t vs := e.trans h
theorem below (h : ARow w g t vs) (hb : Below w.heap.size w w') : ARow w' g t vs := h.of_block (hb.block g h.lt)
theorem set (h : ARow w g t vs) (k : Nat) (v : Value) : ARow (w.setCell ⟨g, k, none⟩ v) g t (vs.set k v) := by
  unfold ARow at *
  rw [obj_setCell h]
  simp
theorem other (h : ARow w g t vs) {a : Addr} (ha : g ≠ a.block) (v : Value) : ARow (w.setCell a v) g t vs := h.of_block (Below.heap_setCell _ _ _ _ ha)
theorem fresh (w : World) (t : TypeId) (cs : Array Value) : ARow (w.alloc (.cells cs t)) w.heap.size t cs.toList := heap_alloc_new w _
end ARow
end Go.Proofs.YtajholbcpmjhiaaGreatDoor
