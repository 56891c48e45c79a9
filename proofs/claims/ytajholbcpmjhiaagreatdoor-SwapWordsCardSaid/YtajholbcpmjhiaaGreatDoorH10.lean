/- Several texts in one: AsmWords, AsmJump, AsmConst, BootSpec, VRow, ARow. -/
import Derived.Test.YtajholbcpmjhiaaGreatDoorH01
import Derived.Test.YtajholbcpmjhiaaGreatDoorH02
import Derived.Test.YtajholbcpmjhiaaGreatDoorH05
import Derived.Test.YtajholbcpmjhiaaGreatDoorH06
import Derived.Test.YtajholbcpmjhiaaGreatDoorH07
import Derived.Test.YtajholbcpmjhiaaGreatDoorH08
import Derived.Test.YtajholbcpmjhiaaGreatDoorH09
import Derived.WalkKit
import Derived.Test.YtajholbcpmjhiaaGreatDoorProg
import Derived.WalkSpells
import Derived.WalkLawsBesides
import Derived.RegionTactic
import Derived.Outline
import Derived.BigRegion
import Derived.ChangeAlike
import Derived.Deep.QuietTactic
import Derived.BigQuiet
import Derived.StillTailTactics
import Derived.Laws.AppendOwn
import Derived.Below
import Derived.Maps.OwnSet
import Derived.Maps.Views
import Derived.Laws.AppendOwnNone
import Derived.Handy
import Derived.WalkArith
import Derived.OneCell
import Derived.ArgAppend
import Derived.Lib.SliceRun
import Derived.Laws.Rows
/- Walks of the package asm: Words. -/
namespace Go.Proofs.YtajholbcpmjhiaaGreatDoor
open Go.RowKit Go.Maps
set_option linter.unusedVariables false
set_option linter.unusedSimpArgs false
/-- What an item is at a place: its word, its answer. -/
def itW (M : List (List UInt8 × Int)) (i : Int) : It → Int
  | .put x => encS x
  | .far x nm => match look M nm.data.toList with | none => 0 | some t => farW x (t - i)
def itE (M : List (List UInt8 × Int)) (i : Int) : It → Int
  | .put x => 0
  | .far x nm => match look M nm.data.toList with | none => 7 | some t => farE x (t - i)
/-- All words; the first answer that is not 0. -/
def wordsL (M : List (List UInt8 × Int)) : Nat → List It → List Int
  | _, [] => []
  | i, it :: L => itW M i it :: wordsL M (i + 1) L
def wordsE (M : List (List UInt8 × Int)) : Nat → List It → Int
  | _, [] => 0
  | i, it :: L => if itE M i it = 0 then wordsE M (i + 1) L else itE M i it
theorem wordsL_len (M : List (List UInt8 × Int)) : ∀ (L : List It) (i : Nat), (wordsL M i L).length = L.length := by
  intro L; induction L with
  | nil => intro i; rfl
  | cons x L ih => intro i; simp [wordsL, ih]
theorem wordsL_snoc (M : List (List UInt8 × Int)) (it : It) : ∀ (L : List It) (i : Nat), wordsL M i (L ++ [it]) = wordsL M i L ++ [itW M (i + L.length : Nat) it] := by
  intro L; induction L with
  | nil => intro i; simp [wordsL]
  | cons x L ih => intro i; simp only [List.cons_append, wordsL, ih, List.length_cons]; rw [show i + 1 + L.length = i + (L.length + 1) by omega]
theorem wordsE_append (M : List (List UInt8 × Int)) : ∀ (L L2 : List It) (i : Nat), wordsE M i (L ++ L2) = if wordsE M i L = 0 then wordsE M (i + L.length) L2 else wordsE M i L := by
  intro L; induction L with
  | nil => intro L2 i; simp [wordsE]
  | cons x L ih =>
    intro L2 i
    simp only [List.cons_append, wordsE, ih, List.length_cons]
    rw [show i + 1 + L.length = i + (L.length + 1) by omega]
    by_cases h : itE M i x = 0
    · simp [h]
    · simp [h]
theorem wordsE_stop (M : List (List UInt8 × Int)) (L : List It) (k : Nat) (it : It) (h0 : wordsE M 0 (L.take k) = 0) (hk : L[k]? = some it) (he : itE M k it ≠ 0) : wordsE M 0 L = itE M k it := by
  have hlt : k < L.length := by
    rcases Nat.lt_or_ge k L.length with h | h
    · exact h
    · rw [List.getElem?_eq_none h] at hk; cases hk
  have e : L = L.take k ++ (it :: L.drop (k + 1)) := by
    rw [List.getElem?_eq_getElem hlt] at hk
    cases hk
    rw [← List.drop_eq_getElem_cons hlt, List.take_append_drop]
  rw [e, wordsE_append, if_pos h0, List.length_take, Nat.min_eq_left (by omega), Nat.zero_add, wordsE, if_neg he]
theorem words_step (M : List (List UInt8 × Int)) (L : List It) (k : Nat) (it : It) (h0 : wordsE M 0 (L.take k) = 0) (hk : L[k]? = some it) (he : itE M k it = 0) :
    wordsE M 0 (L.take (k + 1)) = 0 ∧ wordsL M 0 (L.take (k + 1)) = wordsL M 0 (L.take k) ++ [itW M k it] := by
  have hlt : k < L.length := by
    rcases Nat.lt_or_ge k L.length with h | h
    · exact h
    · rw [List.getElem?_eq_none h] at hk; cases hk
  have e : L.take (k + 1) = L.take k ++ [it] := by
    rw [List.getElem?_eq_getElem hlt] at hk
    cases hk
    exact List.take_succ_eq_append_getElem hlt
  rw [e, wordsL_snoc, wordsE_append, if_pos h0, List.length_take, Nat.min_eq_left (by omega), Nat.zero_add]
  exact ⟨by simp [wordsE, he], rfl⟩
/-- What Words tells. -/
def WordsOk (w : World) (L : List It) (M : List (List UInt8 × Int)) (e : Ending) (w' : World) : Prop :=
  ∃ v l, e = .returned (.tuple #[v, .int .i64 (wordsE M 0 L)]) ∧ l = (if wordsE M 0 L = 0 then wordsL M 0 L else []) ∧ w'.ownsRow w.heap.size 24 1 v l.length (u32s l) ∧ Below w.heap.size w w'
theorem WordsOk.stop {w wr : World} {L : List It} {M : List (List UInt8 × Int)} {k : Nat} {it : It} {e : Int} (h0 : wordsE M 0 (L.take k) = 0) (hk : L[k]? = some it) (he : itE M k it = e) (hne : e ≠ 0) (hb : Below w.heap.size w wr) :
    WordsOk w L M (.returned (.tuple #[.slice none 0 0, .int .i64 e])) wr := by
  have h := wordsE_stop M L k it h0 hk (by rw [he]; exact hne)
  rw [he] at h
  exact ⟨_, [], by rw [h], by rw [h, if_neg hne], World.ownsRow_nil _ _ _ _, hb⟩
theorem infou : (Tryz.prog.info? 24).map (fun i => (i.zero, i.size, i.bytes)) = some (some (.int .u32 0), 1, 4) := by kernel_rfl
theorem _root_.Go.World.ownsRow.kept_below {a b : World} {B : Nat} {e : TypeId} {size n : Nat} {v : Value} {xs : List Value} (h : a.ownsRow B e size v n xs) (o : Below a.heap.size a b) (_ : B ≤ a.heap.size) : b.ownsRow B e size v n xs := by
  refine ⟨h.1, ?_⟩
  rcases h.2 with h | ⟨g, cap, cur, e1, e2, e3, e4⟩
  · exact .inl h
  · exact .inr ⟨g, cap, cur, e1, e2, (o.block g (lt_of_block e3)).trans e3, e4⟩
theorem farE_cases (x : Ix) (d : Int) : farE x d = 0 ∨ farE x d = 50 := by unfold farE; split <;> simp
set_option maxRecDepth 100000 in
set_option maxHeartbeats 2000000 in
theorem awords_any (w : World) (ht : Tab w) (p m : Nat) (sv : Value) (K : Nat → Prop) (L : List It) (M : List (List UInt8 × Int)) (h : AsmAt w p sv m K L M) (hL : L.length < 4294967296) (hM : ∀ nm t, look M nm = some t → 0 ≤ t ∧ t < 4294967296) :
    Calls Tryz.prog 31 #[.pointer (some ⟨p, 0, none⟩)] w (WordsOk w L M) := by
  obtain ⟨c0, c1, f0, f1⟩ := h.cells
  have HN := ahid (anone_made w p m c1)
  obtain ⟨i0, hi, hz0, hz1, hz2⟩ := info_parts infou
  have HII := ahid (And.intro hi (And.intro hz0 (And.intro hz1 hz2)))
  clear hi hz0 hz1 hz2
  have HM := ahid hM
  have HT := ahid ht
  have H := ahid h
  clear ht hM h c1 f0 f1
  obtain ⟨vs, hown, hlen, hvs⟩ := H.out.row
  have HV := ahid (And.intro hlen hvs)
  clear hlen hvs
  rcases hown.2 with ⟨rfl, hl0⟩ | ⟨g, cap, cur, rfl, _, hcur, hcap1, hcap2, hsz, htk⟩
  · obtain rfl : L = [] := List.eq_nil_of_length_eq_zero hl0
    clear hown hl0
    go_enter Tryz.func31, Tryz.ntmps31
    go_wp2_with fail
    refine HN.out.mono ?_
    rintro e w' ⟨rfl, rfl⟩
    go_wp2_with fail
    refine wp_loop_rounds 1 ?_
    rw [rounds_succ]
    go_wp2_with fail
    go_ret2
    exact ⟨_, [], rfl, rfl, World.ownsRow_nil _ _ _ _, Below.refl _ _⟩
  · have hcell := hown.cells rfl
    have HC := ahid hcell
    clear hcell hcur hsz htk hown
    have HZ := ahid (World.ownsRow_nil w w.heap.size 24 1)
    unfold maxLen at hcap2
    go_enter Tryz.func31, Tryz.ntmps31
    go_wp2_with fail
    refine HN.out.mono ?_
    rintro e w' ⟨rfl, rfl⟩
    go_wp2_with fail
    go_loopw [4, 16] (fun v4 i wr => ∃ (k : Nat) (ov : Value), k ≤ L.length ∧ i = .int .i64 k ∧ ov = v4 ∧ wordsE M 0 (L.take k) = 0 ∧ wr.ownsRow w.heap.size 24 1 ov k (u32s (wordsL M 0 (L.take k))) ∧ Below w.heap.size w wr) (fun _ i _ => L.length - (intOf i).toNat)
    case atStart => exact ⟨0, _, Nat.zero_le _, rfl, rfl, rfl, HZ.out, Below.refl _ _⟩
    case round =>
      obtain ⟨k, ov, hk, rfl, rfl, hz, hrow, hbel⟩ := hrel
      have HR := ahid (And.intro hz (And.intro hrow hbel))
      clear hz hrow hbel
      by_cases hlt : k < L.length
      · obtain ⟨it, hit⟩ : ∃ it, L[k]? = some it := ⟨_, List.getElem?_eq_getElem hlt⟩
        obtain ⟨u, hu⟩ : ∃ u, vs[k]? = some u := ⟨_, List.getElem?_eq_getElem (by rw [HV.out.1]; exact hlt)⟩
        have hclo := HV.out.2 k u it hu hit
        have hcu := HC.out k u hu
        rw [addr_add0] at hcu
        have hA := H.out.keep (Only.of_below (S := fun _ => False) HR.out.2.2) (fun _ _ h => h) (fun _ _ h => h)
        have cu : wr.cell? ⟨g, k, none⟩ = some u := (HR.out.2.2.cell (p := ⟨g, k, none⟩) (World.block_lt_of_cell? _ _ hcu)).trans hcu
        have hclo2 := hclo.keep (Only.of_below (S := fun _ => False) HR.out.2.2) (fun _ _ h => h) (fun _ _ h => h)
        obtain ⟨_, c1, _, _⟩ := hA.cells
        have HK := ahid hit
        have HCL := ahid hclo2
        have HA := ahid hA
        have hkL : (k : Int) < L.length := by omega
        clear hit hu hclo hcu hclo2 hA
        have hown2 := HR.out.2.1
        cases it with
        | put x =>
          obtain ⟨c, rfl, hKc, hcc⟩ := HCL.out
          have HCC := ahid (fun mv => aput1_any wr K _ x ⟨c, rfl, hKc, hcc⟩ k mv c rfl hcc)
          have HE := ahid (show itE M k (.put x) = 0 from rfl)
          have HWD := ahid (show itW M k (.put x) = encS x from rfl)
          have HB3 := ahid HR.out.2.2
          clear hKc hcc HCL
          generalize encS x = q at HCC HWD
          go_wp2_with fail
          refine (HCC.out _).mono ?_
          rintro e w' ⟨rfl, rfl⟩
          have hi := HII.out.1
          go_wp2_with (first | (at_builtin; refine wpList_append_own _ rfl _ _ 22 rfl w.heap.size 24 i0 (.int .u32 0) 1 4 Tryz.underlying22 hi HII.out.2.1 HII.out.2.2.1 HII.out.2.2.2 rfl (by decide) _ k (u32s (wordsL M 0 (L.take k))) rfl (hown2.alloc _) ⟨wr.heap.size, 0, none⟩ 1 1 [.int .u32 q] rfl rfl (cell_one_new _ _ _) (by simp [Value.oneCell']) (by unfold maxLen; omega) (by omega) ((HB3.out.alloc HB3.out.size _).size) ?_; intro v' w3 hown3 hgrow3 hnil3))
          obtain ⟨hz3, hl3⟩ := words_step M L k _ HR.out.1 HK.out HE.out
          have hb3 := (HB3.out.alloc HB3.out.size _).grown hgrow3 (by simp; have := HB3.out.size; omega) (fun i hi => (HR.out.2.1.lt i hi).1)
          have hr3 : w3.ownsRow w.heap.size 24 1 v' (k + 1) (u32s (wordsL M 0 (L.take (k + 1)))) := by rw [hl3, HWD.out]; simpa [u32s] using hown3
          clear hl3
          go_roundw
          case rel => exact ⟨k + 1, v', by omega, by go_num, rfl, hz3, hr3, hb3⟩
          case measure => simp [intOf]; omega
        | far x nm =>
          obtain ⟨c, d, rfl, hKc, hKd, hcn, hcx, hnm, hbd⟩ := HCL.out
          cases hlk : look M nm.data.toList with
          | none =>
            have HCC := ahid (afar1_lost wr p m _ K L M HA.out k nm hnm c d hcn hlk)
            have HE := ahid (show itE M k (.far x nm) = 7 by simp only [itE, hlk])
            clear hKc hKd hcn hcx hnm hbd hlk HCL hown2
            go_wp2_with fail
            refine HCC.out.mono ?_
            rintro e w' ⟨rfl, rfl⟩
            go_wp2_with fail
            go_ret2
            exact WordsOk.stop HR.out.1 HK.out HE.out (by decide) HR.out.2.2
          | some t =>
            have htb := HM.out _ _ hlk
            have HCC := ahid (afar1_there wr (HT.out.keep HR.out.2.2) p m _ K L M HA.out k nm hnm c d hcn x hbd hcx t hlk (by omega))
            have HE0 := ahid (show itE M k (.far x nm) = farE x (t - k) by simp only [itE, hlk])
            have HWD := ahid (show itW M k (.far x nm) = farW x (t - k) by simp only [itW, hlk])
            have hfe := farE_cases x (t - k)
            clear hKc hKd hcn hcx hnm hbd hlk HCL htb hown2
            generalize farW x (t - k) = q at HCC HWD
            generalize farE x (t - k) = ee at HCC HE0 hfe
            rcases hfe with rfl | rfl
            · have HE := HE0
              go_wp2_with fail
              refine HCC.out.mono ?_
              rintro e w4 ⟨rfl, hb4⟩
              have hown2 := HR.out.2.1.kept_below hb4 HR.out.2.2.size
              have HB3 := ahid (HR.out.2.2.trans (hb4.mono HR.out.2.2.size))
              clear hb4
              have hi := HII.out.1
              go_wp2_with (first | (at_builtin; refine wpList_append_own _ rfl _ _ 22 rfl w.heap.size 24 i0 (.int .u32 0) 1 4 Tryz.underlying22 hi HII.out.2.1 HII.out.2.2.1 HII.out.2.2.2 rfl (by decide) _ k (u32s (wordsL M 0 (L.take k))) rfl (hown2.alloc _) ⟨w4.heap.size, 0, none⟩ 1 1 [.int .u32 q] rfl rfl (cell_one_new _ _ _) (by simp [Value.oneCell']) (by unfold maxLen; omega) (by omega) ((HB3.out.alloc HB3.out.size _).size) ?_; intro v' w3 hown3 hgrow3 hnil3))
              obtain ⟨hz3, hl3⟩ := words_step M L k _ HR.out.1 HK.out HE.out
              have hb3 := (HB3.out.alloc HB3.out.size _).grown hgrow3 (by simp; have := HB3.out.size; omega) (fun i hi => (HR.out.2.1.lt i hi).1)
              have hr3 : w3.ownsRow w.heap.size 24 1 v' (k + 1) (u32s (wordsL M 0 (L.take (k + 1)))) := by rw [hl3, HWD.out]; simpa [u32s] using hown3
              clear hl3
              go_roundw
              case rel => exact ⟨k + 1, v', by omega, by go_num, rfl, hz3, hr3, hb3⟩
              case measure => simp [intOf]; omega
            · go_wp2_with fail
              refine HCC.out.mono ?_
              rintro e w4 ⟨rfl, hb4⟩
              have HB4 := ahid hb4
              clear hb4
              go_wp2_with fail
              go_ret2
              exact WordsOk.stop HR.out.1 HK.out HE0.out (by decide) (HR.out.2.2.trans (HB4.out.mono HR.out.2.2.size))
      · obtain rfl : k = L.length := by omega
        have hkL : ¬ ((L.length : Int) < L.length) := by omega
        go_wp2_with fail
        go_ret2
        have hz := HR.out.1
        have hr := HR.out.2.1
        rw [List.take_length] at hz hr
        exact ⟨ov, wordsL M 0 L, by rw [hz]; rfl, by rw [hz, if_pos rfl], by rw [wordsL_len]; exact hr, HR.out.2.2⟩
end Go.Proofs.YtajholbcpmjhiaaGreatDoor
/- Walks of the package asm: far whatever it is given; Jump, Call. -/
namespace Go.Proofs.YtajholbcpmjhiaaGreatDoor
open Go.RowKit Go.Maps
set_option linter.unusedVariables false
set_option linter.unusedSimpArgs false
/-- What far leaves. -/
def FarOk (w : World) (p : Nat) (sv : Value) (m : Nat) (K : Nat → Prop) (L : List It) (M : List (List UInt8 × Int)) (x : Ix) (nm : ByteArray) (e : Ending) (w' : World) : Prop :=
  if mayP x then e = .returned (.int .i64 0) ∧ AddOk w p sv m K L M [.far x nm] w' else e = .returned (.int .i64 2) ∧ Below w.heap.size w w'
set_option maxRecDepth 100000 in
set_option maxHeartbeats 1000000 in
theorem afar_any (w : World) (ht : Tab w) (p m : Nat) (sv : Value) (K : Nat → Prop) (L : List It) (M : List (List UInt8 × Int)) (h : AsmAt w p sv m K L M) (x : Ix) (hx : x.bd) (nm : ByteArray) (hs : nm.size ≤ maxLen) (hL : L.length < 4294967296) :
    Calls Tryz.prog 185 #[.pointer (some ⟨p, 0, none⟩), x.agg, .string nm] w (FarOk w p sv m K L M x nm) := by
  by_cases hm : mayP x
  · exact (afar_put w ht p m sv K L M h x hx hm nm hs hL).mono fun e w' hh => by unfold FarOk; rw [if_pos hm]; exact hh
  · have hE := fun W hW => encode_any x hx W hW
    rw [show encE x = 2 from if_neg hm] at hE
    have hfin : ∀ w', Below w.heap.size w w' → FarOk w p sv m K L M x nm (.returned (.int .i64 2)) w' := fun w' hb => by unfold FarOk; rw [if_neg hm]; exact ⟨rfl, hb⟩
    have HF := ahid hfin
    have HE := ahid hE
    have H := ahid h
    have HT := ahid ht
    clear h ht hfin hE hx hm hs
    obtain ⟨op, rd, rs1, rs2, is, imm⟩ := x
    go_enter Tryz.func185, Tryz.ntmps185
    go_wp2_with fail
    have hb1 : Below w.heap.size w ((w.alloc (.cells #[.int .u8 op, .int .u8 rd, .int .u8 rs1, .int .u8 rs2, .bool is, .int .i32 imm] 41)).alloc (.cells #[.string nm] 9)) := ((Below.refl _ _).alloc (Nat.le_refl _) _).alloc (by simp) _
    have d0 : ∀ (i : Nat) (u : Value), (Ix.mk op rd rs1 rs2 is imm).agg.cells[i]? = some u → ((w.alloc (.cells #[.int .u8 op, .int .u8 rd, .int .u8 rs1, .int .u8 rs2, .bool is, .int .i32 imm] 41)).alloc (.cells #[.string nm] 9)).cell? ⟨w.heap.size, i, none⟩ = some u := fun i u hu => by
      refine Lib.cell?_alloc_some _ ?_
      simp only [World.cell?, (MapKept.heap_alloc w _).1]
      simpa [Value.cells] using hu
    generalize (w.alloc (.cells #[.int .u8 op, .int .u8 rd, .int .u8 rs1, .int .u8 rs2, .bool is, .int .i32 imm] 41)).alloc (.cells #[.string nm] 9) = w1 at *
    have HA1 := ahid (H.out.keep (Only.of_below (S := fun _ => False) hb1) (fun _ _ h => h) (fun _ _ h => h))
    have HT1 := ahid (HT.out.keep hb1)
    have HB1 := ahid hb1
    clear hb1
    obtain ⟨_, c1, _, _⟩ := HA1.out.cells
    have e0 := d0 0 _ rfl
    have e1 := d0 1 _ rfl
    have e2 := d0 2 _ rfl
    have e3 := d0 3 _ rfl
    have e4 := d0 4 _ rfl
    have e5 := d0 5 _ rfl
    clear d0
    refine (anone_made w1 p m c1).mono ?_
    rintro e w' ⟨rfl, rfl⟩
    go_wp2_with fail
    refine (HE.out _ HT1.out).mono ?_
    rintro e w2 ⟨rfl, bl⟩
    have HB2 := ahid (HB1.out.trans (bl.mono HB1.out.size))
    clear bl
    go_wp2_with fail
    go_ret
    exact HF.out _ HB2.out
theorem jump_bd {c : Int} (h0 : 0 ≤ c) (h1 : c < 256) : (Ix.mk 17 c 0 0 true 0).bd := by unfold Ix.bd; simp only; omega
theorem jump_may {c : Int} (h0 : 0 ≤ c) : mayP (Ix.mk 17 c 0 0 true 0) ↔ c ≤ 6 := by
  have hk : kindS 17 = 4 := by decide
  unfold mayP okS
  simp only [hk]
  constructor
  · intro h; have := h.2.2.2; simp at this; exact this
  · intro h; refine ⟨by omega, by omega, by omega, ?_⟩; simp; exact h
set_option maxRecDepth 100000 in
theorem ajump_any (w : World) (ht : Tab w) (p m : Nat) (sv : Value) (K : Nat → Prop) (L : List It) (M : List (List UInt8 × Int)) (h : AsmAt w p sv m K L M) (c : Int) (hc0 : 0 ≤ c) (hc1 : c < 256) (nm : ByteArray) (hs : nm.size ≤ maxLen) (hL : L.length < 4294967296) :
    Calls Tryz.prog 116 #[.pointer (some ⟨p, 0, none⟩), .int .u8 c, .string nm] w (FarOk w p sv m K L M ⟨17, c, 0, 0, true, 0⟩ nm) := by
  have HC := ahid (afar_any w ht p m sv K L M h ⟨17, c, 0, 0, true, 0⟩ (jump_bd hc0 hc1) nm hs hL)
  clear h ht hs hL hc0 hc1
  go_enter Tryz.func116, Tryz.ntmps116
  go_wp2_with fail
  refine HC.out.mono ?_
  intro e w' hh
  have : e = .returned (.int .i64 (if mayP ⟨17, c, 0, 0, true, 0⟩ then 0 else 2)) := by unfold FarOk at hh; split at hh <;> simp_all
  subst this
  have HH := ahid hh
  clear hh
  generalize (if mayP ⟨17, c, 0, 0, true, 0⟩ then (0 : Int) else 2) = q at *
  go_wp2_with fail
  go_ret
  exact HH.out
end Go.Proofs.YtajholbcpmjhiaaGreatDoor
/- Walks of the package asm: Const. -/
namespace Go.Proofs.YtajholbcpmjhiaaGreatDoor
open Go.RowKit Go.Maps
set_option linter.unusedVariables false
set_option linter.unusedSimpArgs false
/-- An instruction's cells. -/
def Ix.cells (x : Ix) : List Value := [.int .u8 x.op, .int .u8 x.rd, .int .u8 x.rs1, .int .u8 x.rs2, .bool x.is, .int .i32 x.imm]
theorem Ix.cells_len (x : Ix) : x.cells.length = 6 := rfl
theorem InsAt.of_cells {w : World} {b o : Nat} {x : Ix} (hx : x.bd) (h : ∀ j u, x.cells[j]? = some u → w.cell? ⟨b, o + j, none⟩ = some u) : InsAt w b o x :=
  ⟨h 0 _ rfl, h 1 _ rfl, h 2 _ rfl, h 3 _ rfl, h 4 _ rfl, h 5 _ rfl, hx⟩
theorem InsIn.of_row {w : World} {p : Nat} {cap : Nat} {l : List Ix} (hb : ∀ x ∈ l, x.bd) (hm : l.length ≤ maxLen) (h : ∀ (j : Nat) u, (l.flatMap Ix.cells)[j]? = some u → w.cell? ⟨p, j, none⟩ = some u) : InsIn w (.slice (some ⟨p, 0, none⟩) l.length cap) l := by
  refine ⟨hm, _, cap, p, 0, rfl, fun _ => rfl, fun k x hx => InsAt.of_cells (hb x (List.mem_of_getElem? hx)) fun j u hu => ?_⟩
  rw [Nat.zero_add]
  refine h _ _ ?_
  have hj : j < 6 := by
    rcases Nat.lt_or_ge j 6 with h | h
    · exact h
    · rw [List.getElem?_eq_none (by rw [Ix.cells_len]; exact h)] at hu; cases hu
  rw [flat_get Ix.cells 6 Ix.cells_len l k j x hx hj]; exact hu
theorem InsIn.of_own {w : World} {B : Nat} {v : Value} {l : List Ix} (hb : ∀ x ∈ l, x.bd) (hm : l.length ≤ maxLen) (h : w.ownsRow B 41 6 v l.length (l.flatMap Ix.cells)) : InsIn w v l := by
  rcases h.2 with ⟨rfl, h0⟩ | ⟨g, cap, cur, rfl, _⟩
  · refine ⟨hm, none, 0, 0, 0, by rw [h0], fun hh => by omega, fun k x hx => ?_⟩
    rw [List.eq_nil_of_length_eq_zero h0] at hx; simp at hx
  · refine InsIn.of_row hb hm fun j u hu => ?_
    have := h.cells rfl j u hu
    rw [addr_add0] at this
    exact this
theorem PutOk.of_below {w w1 w' : World} {p m : Nat} {sv : Value} {K : Nat → Prop} {L : List It} {M : List (List UInt8 × Int)} {l : List Ix} {e : Ending} (hb : Below w.heap.size w w1) (h : PutOk w1 p sv m K L M l e w') : PutOk w p sv m K L M l e w' := by
  unfold PutOk at h ⊢
  split at h
  · rw [if_pos ‹_›]; exact ⟨h.1, h.2.of_below hb⟩
  · rw [if_neg ‹_›]; exact ⟨h.1, hb.trans (h.2.mono hb.size)⟩
theorem InsIn.one {x : Ix} (hb : ∀ y ∈ [x], y.bd) (w : World) : InsIn (w.alloc (.cells #[.int .u8 x.op, .int .u8 x.rd, .int .u8 x.rs1, .int .u8 x.rs2, .bool x.is, .int .i32 x.imm] 41)) (.slice (some ⟨w.heap.size, 0, none⟩) 1 1) [x] :=
  InsIn.of_row (l := [x]) hb (by simp [maxLen]) fun j u hu => by
    simp only [World.cell?, (MapKept.heap_alloc w _).1]
    simpa [Ix.cells] using hu
end Go.Proofs.YtajholbcpmjhiaaGreatDoor
/- What the runtime's handlers are: plain lists of instructions. No program in sight. -/
namespace Go.Proofs.YtajholbcpmjhiaaGreatDoor
open Go.RowKit
set_option linter.unusedVariables false
/-- An instruction of the ALU with a number; one with two registers. -/
def aluI (op rd rs n : Int) : Ix := ⟨1 + op, rd, rs, 0, true, n⟩
def bothI (op rd a b : Int) : Ix := ⟨1 + op, rd, a, b, false, 0⟩
def ldI (rd rs at' : Int) : Ix := ⟨22, rd, rs, 0, true, at'⟩
def stI (rd rs at' : Int) : Ix := ⟨23, rd, rs, 0, true, at'⟩
def cmpI (rs n : Int) : Ix := ⟨16, 0, rs, 0, true, n⟩
instance decIxBd (x : Ix) : Decidable x.bd := by unfold Ix.bd; infer_instance
/-- Instructions that may be. -/
def okI (x : Ix) : Prop := x.bd ∧ mayP x
instance decOkI (x : Ix) : Decidable (okI x) := by unfold okI; infer_instance
def allI (l : List Ix) : Prop := ∀ x ∈ l, okI x
instance decAllI (l : List Ix) : Decidable (allI l) := by unfold allI; infer_instance
/-- A list of instructions under way, and its marks. -/
structure Bs where
  L : List It
  M : List (List UInt8 × Int)
def Bs.put (s : Bs) (l : List Ix) : Bs := { s with L := s.L ++ l.map .put }
def Bs.jump (s : Bs) (c : Int) (nm : List UInt8) : Bs := { s with L := s.L ++ [.far ⟨17, c, 0, 0, true, 0⟩ ⟨nm.toArray⟩] }
def Bs.mark (s : Bs) (nm : List UInt8) : Bs := { s with M := s.M ++ [(nm, (s.L.length : Int))] }
def eachI (op : Int) (i : Nat) : Ix := ⟨op, (i : Int) + 16, 14, 0, true, 4 * (i : Int)⟩
def Bs.each (s : Bs) (op : Int) : Nat → Bs
  | 0 => s
  | n + 1 => (s.each op n).put [eachI op n]
theorem each_ok : ∀ i : Nat, i < 16 → allI [eachI 23 i] ∧ allI [eachI 22 i] := by decide
theorem Bs.each_M (s : Bs) (op : Int) : ∀ n, (s.each op n).M = s.M
  | 0 => rfl
  | n + 1 => s.each_M op n
theorem Bs.each_len (s : Bs) (op : Int) : ∀ n, (s.each op n).L.length = s.L.length + n
  | 0 => rfl
  | n + 1 => by
    have ih := s.each_len op n
    show ((s.each op n).L ++ _).length = _
    rw [List.length_append, ih]; simp; omega
theorem Bs.put_len (s : Bs) (l : List Ix) : (s.put l).L.length = s.L.length + l.length := by
  show (s.L ++ _).length = _
  rw [List.length_append, List.length_map]
end Go.Proofs.YtajholbcpmjhiaaGreatDoor
/- Rows of cells that the call made. No function of the program is walked here. -/
namespace Go.Proofs.YtajholbcpmjhiaaGreatDoor
open Go.RowKit
set_option linter.unusedVariables false
set_option linter.unusedSimpArgs false
/-- Block g begins with the cells vs; none is frozen. -/
def VRow (w : World) (g : Nat) (t : TypeId) (vs : List Value) : Prop :=
  ∃ cur : Array Value, w.heap[g]? = some (.cells cur t (0, 0)) ∧ ∀ (k : Nat) x, vs[k]? = some x → cur[k]? = some x
namespace VRow
variable {w w' : World} {g : Nat} {t : TypeId} {vs : List Value}
theorem cell (h : VRow w g t vs) {k : Nat} {x : Value} (hx : vs[k]? = some x) : w.cell? ⟨g, k, none⟩ = some x := by
  obtain ⟨cur, hb, hc⟩ := h
  simp [World.cell?, hb, hc k x hx]
theorem frozen (h : VRow w g t vs) (k : Nat) : w.frozen? ⟨g, k, none⟩ = false := by
  obtain ⟨cur, hb, _⟩ := h
  simp [World.frozen?, hb]
theorem lt (h : VRow w g t vs) : g < w.heap.size := by
  obtain ⟨cur, hb, _⟩ := h
  exact (Array.getElem?_eq_some_iff.1 hb).1
theorem of_block (h : VRow w g t vs) (e : w'.heap[g]? = w.heap[g]?) : VRow w' g t vs := by
  obtain ⟨cur, hb, hc⟩ := h
  exact ⟨cur, e.trans hb, hc⟩
theorem keep {B : Nat} (h : VRow w g t vs) (hb : Below B w w') (hg : g < B) : VRow w' g t vs := h.of_block (hb.block g hg)
theorem below (h : VRow w g t vs) (hb : Below w.heap.size w w') : VRow w' g t vs := h.keep hb h.lt
theorem set (h : VRow w g t vs) {k : Nat} (hk : k < vs.length) (v : Value) : VRow (w.setCell ⟨g, k, none⟩ v) g t (vs.set k v) := by
  obtain ⟨cur, hb, hc⟩ := h
  have hk' : k < cur.size := by
    have := hc k _ (List.getElem?_eq_getElem hk)
    exact (Array.getElem?_eq_some_iff.1 this).1
  refine ⟨cur.setIfInBounds k v, ?_, fun j x hx => ?_⟩
  · simp [World.setCell, Array.getElem?_modify, hb]
  · rw [Array.getElem?_setIfInBounds]
    by_cases e : k = j
    · subst e
      rw [List.getElem?_set_self hk] at hx
      simp [hk', hx]
    · rw [if_neg e]
      rw [List.getElem?_set_ne e] at hx
      exact hc j x hx
theorem other (h : VRow w g t vs) {a : Addr} (ha : g ≠ a.block) (v : Value) : VRow (w.setCell a v) g t vs := h.of_block (Below.heap_setCell _ _ _ _ ha)
theorem alloc (h : VRow w g t vs) (o : Obj) : VRow (w.alloc o) g t vs := h.of_block (Below.heap_alloc _ _ _ h.lt)
theorem of_own {base n : Nat} {v : Value} {xs : List Value} (h : w.ownsRow base t 1 v n xs) (hv : v ≠ .slice none 0 0) : ∃ g c, v = .slice (some ⟨g, 0, none⟩) n c ∧ base ≤ g ∧ VRow w g t xs := by
  rcases h.2 with ⟨rfl, _⟩ | ⟨g, cap, cur, rfl, h2, h3, h4, h5, h6, h7⟩
  · exact absurd rfl hv
  · refine ⟨g, cap, rfl, h2, cur, h3, fun k x hx => ?_⟩
    rw [← h7] at hx
    rw [List.getElem?_take] at hx
    split at hx
    · rw [← Array.getElem?_toList]; exact hx
    · cases hx
end VRow
end Go.Proofs.YtajholbcpmjhiaaGreatDoor
/- A block that is known whole. No function of the program is walked here. -/
namespace Go.Proofs.YtajholbcpmjhiaaGreatDoor
open Go.RowKit
set_option linter.unusedVariables false
/-- Block g has just the cells vs; none is frozen. -/
def ARow (w : World) (g : Nat) (t : TypeId) (vs : List Value) : Prop := w.heap[g]? = some (.cells vs.toArray t (0, 0))
namespace ARow
variable {w w' : World} {g : Nat} {t : TypeId} {vs : List Value}
theorem vrow (h : ARow w g t vs) : VRow w g t vs := ⟨_, h, fun k x hx => by simpa using hx⟩
theorem cell (h : ARow w g t vs) {k : Nat} {x : Value} (hx : vs[k]? = some x) : w.cell? ⟨g, k, none⟩ = some x := h.vrow.cell hx
theorem frozen (h : ARow w g t vs) (k : Nat) : w.frozen? ⟨g, k, none⟩ = false := h.vrow.frozen k
theorem lt (h : ARow w g t vs) : g < w.heap.size := h.vrow.lt
theorem of_block (h : ARow w g t vs) (e : w'.heap[g]? = w.heap[g]?) : ARow w' g t vs := e.trans h
theorem below (h : ARow w g t vs) (hb : Below w.heap.size w w') : ARow w' g t vs := h.of_block (hb.block g h.lt)
theorem set (h : ARow w g t vs) (k : Nat) (v : Value) : ARow (w.setCell ⟨g, k, none⟩ v) g t (vs.set k v) := by
  unfold ARow at *
  rw [obj_setCell h]
  simp
theorem other (h : ARow w g t vs) {a : Addr} (ha : g ≠ a.block) (v : Value) : ARow (w.setCell a v) g t vs := h.of_block (Below.heap_setCell _ _ _ _ ha)
theorem alloc (h : ARow w g t vs) (o : Obj) : ARow (w.alloc o) g t vs := h.of_block (Below.heap_alloc _ _ _ h.lt)
theorem fresh (w : World) (t : TypeId) (cs : Array Value) : ARow (w.alloc (.cells cs t)) w.heap.size t cs.toList := heap_alloc_new w _
theorem setRow (h : ARow w g t vs) (cs : Array Value) : ARow (w.setRow g cs) g t cs.toList := setRow_heap w g _ _ t _ h
theorem of_own {base n : Nat} {v : Value} {xs : List Value} (h : w.ownsRow base t 1 v n xs) (hv : v ≠ .slice none 0 0) : True := trivial
end ARow
end Go.Proofs.YtajholbcpmjhiaaGreatDoor
