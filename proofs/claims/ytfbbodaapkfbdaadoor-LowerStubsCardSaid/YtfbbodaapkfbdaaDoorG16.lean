/- Walks of the package asm: Put. -/
import Derived.Test.YtfbbodaapkfbdaaDoorG14
import Derived.Test.YtfbbodaapkfbdaaDoorG15
namespace Go.Proofs.YtfbbodaapkfbdaaDoor
open Go.RowKit Go.Maps
set_option linter.unusedVariables false
set_option linter.unusedSimpArgs false
theorem cell_one_new2 (w : World) (A : Obj) (v : Value) (T : TypeId) : ∀ (j : Nat) u, [v][j]? = some u → ((w.alloc A).alloc (.cells #[v] T)).cell? ((⟨w.heap.size + 1, 0, none⟩ : Addr).add j) = some u := by
  have h := cell_one_new (w.alloc A) v T
  rw [show (w.alloc A).heap.size = w.heap.size + 1 by simp] at h
  exact h
theorem PutOk.yes {w w' : World} {p m : Nat} {sv : Value} {K : Nat → Prop} {L : List It} {M : List (List UInt8 × Int)} {l : List Ix} (h : ∀ x ∈ l, mayP x) (h2 : AddOk w p sv m K L M (l.map .put) w') : PutOk w p sv m K L M l (.returned (.int .i64 0)) w' := by
  unfold PutOk; rw [if_pos h]; exact ⟨rfl, h2⟩
theorem aput_none (w : World) (a v : Value) (hn : ∀ W, Below w.heap.size w W → Calls Tryd.prog 30 #[a] W fun e w' => e = .returned (.bool true) ∧ W = w') :
    Calls Tryd.prog 37 #[a, v] w fun e w' => e = .returned (.int .i64 1) ∧ w = w' := by
  go_enter Tryd.func37, Tryd.ntmps37
  go_wp2_with fail
  refine (hn _ (Below.refl _ _)).mono ?_
  rintro e w' ⟨rfl, rfl⟩
  go_wp2_with fail
  go_ret
  exact ⟨rfl, rfl⟩
set_option maxRecDepth 100000 in
set_option maxHeartbeats 2000000 in
theorem aput_any (w : World) (ht : Tab w) (p m : Nat) (sv : Value) (K : Nat → Prop) (L : List It) (M : List (List UInt8 × Int)) (h : AsmAt w p sv m K L M) (v : Value) (l : List Ix) (hl : InsIn w v l) (hL : L.length + l.length < 4294967296) :
    Calls Tryd.prog 37 #[.pointer (some ⟨p, 0, none⟩), v] w (PutOk w p sv m K L M l) := by
  obtain ⟨c0, c1, f0, f1⟩ := h.cells
  obtain ⟨hlm, pv, cv, b, o, rfl, hpv, hins⟩ := hl
  have HN := ahid (anone_made w p m c1)
  have H := ahid h
  have HT := ahid ht
  have HI := ahid hins
  have HP := ahid hpv
  clear h ht hins hpv c0 c1 f0 f1
  unfold maxLen at hlm
  obtain ⟨i0, hi, hz0, hz1, hz2⟩ := info_parts infow
  have HII := ahid (And.intro hi (And.intro hz0 (And.intro hz1 hz2)))
  clear hi hz0 hz1 hz2
  have HS := ahid (PutAt.start w l)
  go_enter Tryd.func37, Tryd.ntmps37
  go_wp2_with fail
  refine HN.out.mono ?_
  rintro e w' ⟨rfl, rfl⟩
  go_wp2_with fail
  go_loopw [5, 14] (fun v5 i wr => ∃ (k : Nat) (mv : Value), k ≤ l.length ∧ i = .int .i64 k ∧ mv = v5 ∧ PutAt w l mv k wr) (fun _ i _ => l.length - (intOf i).toNat)
  case atStart => exact ⟨0, _, Nat.zero_le _, rfl, rfl, HS.out⟩
  case round =>
    obtain ⟨k, mv, hk, rfl, rfl, HR⟩ := hrel
    replace HR := ahid HR
    by_cases hlt : k < l.length
    · obtain ⟨x, hx⟩ : ∃ x, l[k]? = some x := ⟨_, List.getElem?_eq_getElem hlt⟩
      obtain rfl := HP.out (by omega)
      have hxi := (HI.out k x hx).keepb HR.out.below
      have c0 := hxi.c0
      have c1 := hxi.c1
      have c2 := hxi.c2
      have c3 := hxi.c3
      have c4 := hxi.c4
      have c5 := hxi.c5
      have HX := ahid hx
      have HB := ahid hxi.bd
      clear hx hxi
      have hE := ahid (fun W hW => encode_any x HB.out W hW)
      have hkn : (k : Int) < l.length := by omega
      obtain ⟨op, rd, rs1, rs2, is, imm⟩ := x
      go_wp2_with fail
      have hb1 : Below wr.heap.size wr (wr.alloc (.cells #[.int .u8 op, .int .u8 rd, .int .u8 rs1, .int .u8 rs2, .bool is, .int .i32 imm] 50)) := (Below.refl _ _).alloc (Nat.le_refl _) _
      have hsz1 : (wr.alloc (.cells #[.int .u8 op, .int .u8 rd, .int .u8 rs1, .int .u8 rs2, .bool is, .int .i32 imm] 50)).heap.size = wr.heap.size + 1 := by simp
      have HB1 := ahid (And.intro hb1 hsz1)
      clear hb1 hsz1 c0 c1 c2 c3 c4 c5
      generalize wr.alloc (.cells #[.int .u8 op, .int .u8 rd, .int .u8 rs1, .int .u8 rs2, .bool is, .int .i32 imm] 50) = w1 at *
      refine (hE.out w1 ((HT.out.keep HR.out.below).keep (HB1.out.1.mono HR.out.below.size |> fun b => by exact HB1.out.1))).mono ?_
      rintro e w2 ⟨rfl, bl⟩
      have HB2 := ahid (And.intro (HB1.out.1.trans (bl.mono HB1.out.1.size)) (by have := bl.size; have := HB1.out.2; omega : wr.heap.size < w2.heap.size))
      clear bl HB1
      by_cases hm : mayP ⟨op, rd, rs1, rs2, is, imm⟩
      · have he : encE ⟨op, rd, rs1, rs2, is, imm⟩ = 0 := if_pos hm
        rw [he]
        have HM := ahid hm
        clear he hm
        obtain ⟨vs, C, hown, hlen, hvs, hC⟩ := HR.out.ex
        have HV := ahid (And.intro hown (And.intro hlen (And.intro hvs hC)))
        clear hown hlen hvs hC
        have hown2 := HV.out.1.keepw (Only.of_below (S := fun _ => False) HB2.out.1) (fun _ _ h => h)
        generalize hq : encS ⟨op, rd, rs1, rs2, is, imm⟩ = q
        have HQ := ahid hq
        clear hq
        have hi := HII.out.1
        go_wp2_with (first | (at_builtin; refine wpList_append_place _ rfl _ _ 79 rfl 96 i0 _ 8 Tryd.underlying79 hi HII.out.2.1 HII.out.2.2.1 HII.out.2.2.2 rfl mv k vs rfl ((hown2.alloc _).alloc _) ⟨w2.heap.size + 1, 0, none⟩ 1 1 [.func (.func 71) #[] #[.pointer (some ⟨w2.heap.size, 0, none⟩)]] rfl rfl (cell_one_new2 _ _ _ _) (by simp [Value.oneCell']) (by unfold maxLen; omega) (by omega) ?_; intro v' w3 hown3 hgrow3 hpl3))
        have hb3 : Below wr.heap.size wr ((w2.alloc (.cells #[.int .u32 q] 30)).alloc (.cells #[.func (.func 71) #[] #[.pointer (some ⟨w2.heap.size, 0, none⟩)]] 96)) := (HB2.out.1.alloc (Nat.le_of_lt HB2.out.2) _).alloc (by have := HB2.out.2; simp; omega) _
        have hmore := HR.out.more HX.out HM.out hb3 w2.heap.size (Nat.le_of_lt HB2.out.2) (by simp; omega) (by rw [HQ.out]; simp [go_sem]) HV.out.1 HV.out.2.1 HV.out.2.2.1 HV.out.2.2.2 hown3 hgrow3 hpl3
        go_roundw
        case rel => exact ⟨k + 1, v', by omega, by go_num, rfl, hmore⟩
        case measure => simp [intOf]; omega
      · have he : encE ⟨op, rd, rs1, rs2, is, imm⟩ = 2 := if_neg hm
        rw [he]
        have hbf : Below w.heap.size w w2 := HR.out.below.trans (HB2.out.1.mono HR.out.below.size)
        have hfin : ∀ (o : Obj), PutOk w p sv m K L M l (.returned (.int .i64 2)) (w2.alloc o) := fun o => by
          unfold PutOk
          rw [if_neg (fun h => hm (h _ (List.mem_of_getElem? HX.out)))]
          exact ⟨rfl, hbf.alloc hbf.size _⟩
        have HF := ahid hfin
        clear hfin hbf he hm HR
        generalize encS ⟨op, rd, rs1, rs2, is, imm⟩ = q
        go_wp2_with fail
        go_ret
        exact HF.out _
    · obtain rfl : k = l.length := by omega
      have hkn : ¬ ((l.length : Int) < l.length) := by omega
      have HA := ahid (H.out.keep (Only.of_below (S := fun _ => False) HR.out.below) (fun _ _ h => h) (fun _ _ h => h))
      obtain ⟨c0, c1, f0, f1⟩ := HA.out.cells
      have hall : ∀ x ∈ l, mayP x := fun x hx => by
        obtain ⟨i, hi, he⟩ := List.mem_iff_getElem.1 hx
        exact HR.out.may i x hi (by rw [List.getElem?_eq_getElem hi, he])
      obtain ⟨us, hus1, hus2, hus3⟩ := (H.out.trim.keep (Only.of_below (S := fun _ => False) HR.out.below) (fun _ _ h => h) (fun _ _ h => h)).row
      obtain ⟨vs, C, hown, hlen, hvs, hC⟩ := HR.out.ex
      have hi := HII.out.1
      have HC := ahid hC
      have HV := ahid hvs
      have HL := ahid hall
      have HU := ahid (And.intro hus2 hus3)
      have hor := hown.2
      clear hC hvs hall hus2 hus3
      rcases hor with ⟨rfl, hl0⟩ | ⟨g, cap, cur, rfl, hrest⟩
      · have HL0 := ahid hl0
        clear hl0
        rcases HA.out.slice with ⟨rfl, _⟩ | ⟨gs, caps, rfl, _⟩
        all_goals
          go_wp2_with (first | (at_builtin; refine wpList_append_own_none rfl _ _ 79 rfl 0 96 i0 1 Tryd.underlying79 hi _ L.length us rfl hus1 rfl ?_))
          go_ret
          refine PutOk.yes HL.out ?_
          refine PutAt.fin H.out HR.out hlen HV.out HC.out HU.out.1 HU.out.2 ?_ ⟨rfl, rfl, rfl, Nat.le_refl _, fun _ _ _ => rfl⟩ (.inl rfl)
          obtain rfl : vs = [] := List.eq_nil_of_length_eq_zero (by rw [hlen]; exact HL0.out)
          rw [HL0.out, Nat.add_zero, List.append_nil]
          exact hus1
      · have hcl := hown.cells rfl
        have h1c : ∀ u ∈ vs, u.oneCell' = true := fun u hu => by
          obtain ⟨i, hi, he⟩ := List.mem_iff_getElem.1 hu
          obtain ⟨c, hc, _⟩ := HV.out i u l[i] (by rw [List.getElem?_eq_getElem hi, he]) (List.getElem?_eq_getElem (by omega))
          rw [hc]; simp [Value.oneCell']
        have HCL := ahid (And.intro hcl h1c)
        clear hcl h1c hrest
        go_wp2_with (first | (at_builtin; refine wpList_append_place _ rfl _ _ 79 rfl 96 i0 _ 8 Tryd.underlying79 hi HII.out.2.1 HII.out.2.2.1 HII.out.2.2.2 rfl sv L.length us rfl hus1 ⟨g, 0, none⟩ l.length cap vs rfl (by rw [hlen, Nat.mul_one]) HCL.out.1 HCL.out.2 (by unfold maxLen; omega) (by omega) ?_; intro v' w3 hown3 hgrow3 hpl3; have o3 : Only (fun k => sv.ownBlock = some k) wr w3 := ((Only.refl _ wr)).grown hgrow3 (fun k hk _ => hk.symm ▸ rfl); have c3 := (o3.cell (p := ⟨p, 0, none⟩) (lt_of_block HA.out.ptr) HA.out.ne.2.1).trans c0; have f3 := (World.frozen?_of_block (a := ⟨p, 0, none⟩) (o3.block p (lt_of_block HA.out.ptr) HA.out.ne.2.1)).trans f0; replace hgrow3 := ahid hgrow3; replace hpl3 := ahid hpl3; rcases hown3.2 with ⟨rfl, _⟩ | ⟨g3, cap3, _, rfl, _⟩))
        all_goals
          go_ret
          refine PutOk.yes HL.out ?_
          exact PutAt.fin H.out HR.out hlen HV.out HC.out HU.out.1 HU.out.2 hown3 hgrow3.out hpl3.out
end Go.Proofs.YtfbbodaapkfbdaaDoor
