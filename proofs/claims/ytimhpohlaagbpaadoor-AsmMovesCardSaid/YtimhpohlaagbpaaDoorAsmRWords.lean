/- The document's list (muntinref07): Words. -/
import Derived.Test.YtimhpohlaagbpaaDoorAsmRParts
namespace Go.Proofs.YtimhpohlaagbpaaDoor
open Go.RowKit Go.Maps
set_option linter.unusedVariables false
set_option linter.unusedSimpArgs false
/-- An instruction that goes to a name. -/
def farX (x : Ix) : Prop := (∃ c, 0 ≤ c ∧ c ≤ 6 ∧ x = ⟨17, c, 0, 0, true, 0⟩) ∨ x = ⟨18, 0, 0, 0, true, 0⟩
def FarL (L : List It) : Prop := ∀ x nm, It.far x nm ∈ L → farX x
theorem farX.may {x : Ix} (h : farX x) (d : Int) : mayP { x with imm := d } ↔ -1048576 ≤ d ∧ d < 1048576 := by
  rcases h with ⟨c, h0, h1, rfl⟩ | rfl
  · have hk : kindS 17 = 4 := by decide
    unfold mayP okS
    simp only [hk]
    constructor
    · intro h; have := h.2.2.2; simp at this; omega
    · intro h; refine ⟨by omega, by omega, by omega, ?_⟩; simp; omega
  · have hk : kindS 18 = 5 := by decide
    unfold mayP okS
    simp only [hk]
    constructor
    · intro h; have := h.2.2.2; simp at this; omega
    · intro h; refine ⟨by omega, by omega, by omega, ?_⟩; simp; omega
theorem farX.out {x : Ix} (h : farX x) {d : Int} (hd : ¬ (-1048576 ≤ d ∧ d < 1048576)) : farE x d = 50 := by
  unfold farE; rw [if_neg (fun h2 => hd ((h.may d).1 h2.1))]
theorem farX.in' {x : Ix} (h : farX x) {d : Int} (hd : -1048576 ≤ d ∧ d < 1048576) : farE x d = 0 ∧ farW x d = encS { x with imm := d } := by
  have hm := (h.may d).2 hd
  unfold farE farW
  rw [if_pos ⟨hm, by omega, by omega⟩, if_pos ⟨hm, by omega, by omega⟩]
  exact ⟨rfl, rfl⟩
theorem farX.bd {x : Ix} (h : farX x) {d : Int} (hd : -1048576 ≤ d ∧ d < 1048576) : ({ x with imm := d } : Ix).bd := by
  rcases h with ⟨c, h0, h1, rfl⟩ | rfl <;> (unfold Ix.bd; simp only; omega)
/-- An instruction in a box, that may be written. -/
structure Box6 (w : World) (b : Nat) (x : Ix) : Prop where
  c0 : w.cell? ⟨b, 0, none⟩ = some (.int .u8 x.op)
  c1 : w.cell? ⟨b, 1, none⟩ = some (.int .u8 x.rd)
  c2 : w.cell? ⟨b, 2, none⟩ = some (.int .u8 x.rs1)
  c3 : w.cell? ⟨b, 3, none⟩ = some (.int .u8 x.rs2)
  c4 : w.cell? ⟨b, 4, none⟩ = some (.bool x.is)
  c5 : w.cell? ⟨b, 5, none⟩ = some (.int .i32 x.imm)
  f5 : w.frozen? ⟨b, 5, none⟩ = false
theorem box6 (w : World) (x : Ix) : Box6 (w.alloc (.cells #[.int .u8 x.op, .int .u8 x.rd, .int .u8 x.rs1, .int .u8 x.rs2, .bool x.is, .int .i32 x.imm] 58)) w.heap.size x := by
  have h := heap_alloc_new w (.cells #[.int .u8 x.op, .int .u8 x.rd, .int .u8 x.rs1, .int .u8 x.rs2, .bool x.is, .int .i32 x.imm] 58)
  exact ⟨by simp only [World.cell?, h]; rfl, by simp only [World.cell?, h]; rfl, by simp only [World.cell?, h]; rfl, by simp only [World.cell?, h]; rfl, by simp only [World.cell?, h]; rfl, by simp only [World.cell?, h]; rfl, by simp only [World.frozen?, h]; rfl⟩
theorem Box6.keep {w w' : World} {B b : Nat} {x : Ix} (h : Box6 w b x) (hb : Below B w w') (hl : b < B) : Box6 w' b x :=
  ⟨(hb.cell (p := ⟨b, 0, none⟩) hl).trans h.c0, (hb.cell (p := ⟨b, 1, none⟩) hl).trans h.c1, (hb.cell (p := ⟨b, 2, none⟩) hl).trans h.c2, (hb.cell (p := ⟨b, 3, none⟩) hl).trans h.c3, (hb.cell (p := ⟨b, 4, none⟩) hl).trans h.c4, (hb.cell (p := ⟨b, 5, none⟩) hl).trans h.c5, (hb.frozen (p := ⟨b, 5, none⟩) hl).trans h.f5⟩
theorem ownsRow_far {W1 w5 w4 : World} {B b : Nat} {e : TypeId} {size n : Nat} {v u : Value} {xs : List Value} {i : Nat} (h : W1.ownsRow B e size v n xs) (h5 : Below W1.heap.size W1 w5) (h4 : Below (w5.setCell ⟨b, i, none⟩ u).heap.size (w5.setCell ⟨b, i, none⟩ u) w4) (hne : ∀ k, v.ownBlock = some k → k ≠ b) : w4.ownsRow B e size v n xs := by
  refine ⟨h.1, ?_⟩
  rcases h.2 with h0 | ⟨g, cap, cur, e1, e2, e3, e4⟩
  · exact .inl h0
  · have hg := lt_of_block e3
    have hs : (w5.setCell ⟨b, i, none⟩ u).heap.size = w5.heap.size := by simp [World.setCell]
    refine .inr ⟨g, cap, cur, e1, e2, ?_, e4⟩
    rw [h4.block g (by rw [hs]; exact Nat.lt_of_lt_of_le hg h5.size), Below.heap_setCell _ _ _ _ (hne g (by rw [e1]; rfl)), h5.block g hg]
    exact e3
/-- Items that were put may be. -/
def PutL (L : List It) : Prop := ∀ x, It.put x ∈ L → x.bd
set_option maxRecDepth 100000 in
set_option maxHeartbeats 4000000 in
theorem rwords_any (w : World) (lv : Value) (pm : Option Addr) (nm' cm : Nat) (L : List It) (M : List (List UInt8 × Int)) (hq : ItemsAt w lv L) (hmq : MarksAt w (.slice pm nm' cm) M) (hF : FarL L) (hP : PutL L) (hL : L.length < 4294967296) (hML : M.length ≤ maxLen) (hM : ∀ nm t, look M nm = some t → 0 ≤ t ∧ t < 4294967296) :
    Calls Tryd.prog 30 #[.agg #[lv, .slice pm nm' cm]] w (WordsOk w L M) := by
  obtain ⟨i0, hi, hz0, hz1, hz2⟩ := info_parts infou
  have HII := ahid (And.intro hi (And.intro hz0 (And.intro hz1 hz2)))
  clear hi hz0 hz1 hz2
  have HM := ahid hM
  have HQ := ahid hq
  have HMQ := ahid hmq
  have HFP := ahid (And.intro hF (And.intro hP hML))
  have hq2 := hq.2
  clear hM hq hmq hF hP hML
  rcases hq2 with ⟨rfl, hl0⟩ | ⟨g, cap, rfl, hcap1, hcap2, hg, hcells⟩
  · obtain rfl : L = [] := List.eq_nil_of_length_eq_zero hl0
    clear hl0
    go_enter Tryd.func30, Tryd.ntmps30
    go_wp2_with fail
    refine wp_loop_rounds 1 ?_
    rw [rounds_succ]
    go_wp2_with fail
    go_ret2
    exact ⟨_, [], rfl, rfl, World.ownsRow_nil _ _ _ _, (Below.refl _ _).alloc (Nat.le_refl _) _⟩
  · have HG := ahid (And.intro hg hcells)
    clear hg hcells
    unfold maxLen at hcap2
    have HB0 := ahid (Box2.new w (.slice (some ⟨g, 0, none⟩) L.length cap) (.slice pm nm' cm) 33)
    have HBW := ahid (show Below w.heap.size w (w.alloc (.cells #[.slice (some ⟨g, 0, none⟩) L.length cap, .slice pm nm' cm] 33)) from (Below.refl _ _).alloc (Nat.le_refl _) _)
    have HSZ := ahid (show (w.alloc (.cells #[.slice (some ⟨g, 0, none⟩) L.length cap, .slice pm nm' cm] 33)).heap.size = w.heap.size + 1 by simp)
    go_enter Tryd.func30, Tryd.ntmps30
    go_wp2_with fail
    generalize w.alloc (.cells #[.slice (some ⟨g, 0, none⟩) L.length cap, .slice pm nm' cm] 33) = W0 at *
    have HZ := ahid (World.ownsRow_nil W0 (w.heap.size + 1) 36 1)
    go_loopw [4, 5] (fun v4 i wr => ∃ (k : Nat) (ov : Value), k ≤ L.length ∧ i = .int .i64 k ∧ ov = v4 ∧ wordsE M 0 (L.take k) = 0 ∧ wr.ownsRow (w.heap.size + 1) 36 1 ov k (u32s (wordsL M 0 (L.take k))) ∧ Below (w.heap.size + 1) W0 wr) (fun _ i _ => L.length - (intOf i).toNat)
    case atStart => exact ⟨0, _, Nat.zero_le _, rfl, rfl, rfl, HZ.out, Below.refl _ _⟩
    case round =>
      obtain ⟨k, ov, hk, rfl, rfl, hz, hrow, hbel⟩ := hrel
      have HR := ahid (And.intro hz (And.intro hrow hbel))
      have hwl : Below w.heap.size w wr := HBW.out.trans (hbel.mono (by omega))
      have hsz1 : w.heap.size + 1 ≤ wr.heap.size := by have := hbel.size; have := HSZ.out; omega
      have HWL := ahid hwl
      obtain ⟨b0, b1, bf0, bf1⟩ := HB0.out.keepB hbel (by omega)
      clear hz hrow hbel hwl bf0 bf1
      by_cases hlt : k < L.length
      · obtain ⟨it, hit⟩ : ∃ it, L[k]? = some it := ⟨_, List.getElem?_eq_getElem hlt⟩
        have hkL : (k : Int) < L.length := by omega
        have HK := ahid hit
        have hc : ∀ (j : Nat) (u : Value), it.cells[j]? = some u → wr.cell? ⟨g, k * 8 + j, none⟩ = some u := fun j u hu => by
          have hj : j < 8 := by
            rcases Nat.lt_or_ge j 8 with h | h
            · exact h
            · rw [List.getElem?_eq_none (by rw [It.cells_len]; exact h)] at hu; cases hu
          exact ((acell HWL.out).1 _ _ HG.out.1).trans (HG.out.2 _ _ (by rw [flat_get It.cells 8 It.cells_len L k j it hit hj]; exact hu))
        have hmem := List.mem_of_getElem? hit
        have hn1 : w.heap.size < wr.heap.size := by omega
        have hn2 : g < wr.heap.size := by have := HG.out.1; omega
        have hn3 : w.heap.size ≠ wr.heap.size := by omega
        have hn4 : g ≠ wr.heap.size := by omega
        clear hit
        cases it with
        | put x =>
          have hbd := HFP.out.2.1 x hmem
          have c0 : wr.cell? ⟨g, k * 8, none⟩ = some (.int .u8 x.op) := hc 0 _ rfl
          have c1 := hc 1 _ rfl
          have c2 := hc 2 _ rfl
          have c3 := hc 3 _ rfl
          have c4 := hc 4 _ rfl
          have c5 := hc 5 _ rfl
          have c6 := hc 6 _ rfl
          have HE := ahid (fun W => renc_any x hbd W)
          have HEz := ahid (show itE M k (.put x) = 0 from rfl)
          have HWD := ahid (show itW M k (.put x) = encS x from rfl)
          clear hc hbd hmem
          obtain ⟨op, rd, rs1, rs2, is, imm⟩ := x
          generalize encS ⟨op, rd, rs1, rs2, is, imm⟩ = q at HE HWD
          generalize encE ⟨op, rd, rs1, rs2, is, imm⟩ = qe at HE
          go_wp2_with fail
          refine (HE.out _).mono ?_
          rintro e w4 ⟨rfl, hb4⟩
          have hba : Below (w.heap.size + 1) W0 w4 := (HR.out.2.2.alloc hsz1 _).trans (hb4.mono (by simp; omega))
          have hown2 := (HR.out.2.1.alloc (.cells #[.int .u8 op, .int .u8 rd, .int .u8 rs1, .int .u8 rs2, .bool is, .int .i32 imm] 58)).kept_below hb4 (by simp; omega)
          have HB3 := ahid (And.intro hba (show w.heap.size + 1 ≤ w4.heap.size by have := hb4.size; simp at this; omega))
          clear hb4 hba b0 b1 c0 c1 c2 c3 c4 c5 c6
          have hi := HII.out.1
          go_wp2_with (first | (at_builtin; refine wpList_append_own _ rfl _ _ 39 rfl (w.heap.size + 1) 36 i0 (.int .u32 0) 1 4 Tryd.underlying39 hi HII.out.2.1 HII.out.2.2.1 HII.out.2.2.2 rfl (by decide) _ k (u32s (wordsL M 0 (L.take k))) rfl (hown2.alloc _) ⟨w4.heap.size, 0, none⟩ 1 1 [.int .u32 q] rfl rfl (cell_one_new _ _ _) (by simp [Value.oneCell']) (by unfold maxLen; omega) (by omega) (by simp; have := HB3.out.2; omega) ?_; intro v' w3 hown3 hgrow3 hnil3))
          obtain ⟨hz3, hl3⟩ := words_step M L k _ HR.out.1 HK.out HEz.out
          have hb3 := (HB3.out.1.alloc HB3.out.2 _).grown hgrow3 (by simp; have := HB3.out.2; omega) (fun i hi => (HR.out.2.1.lt i hi).1)
          have hr3 : w3.ownsRow (w.heap.size + 1) 36 1 v' (k + 1) (u32s (wordsL M 0 (L.take (k + 1)))) := by rw [hl3, HWD.out]; simpa [u32s] using hown3
          clear hl3
          go_roundw
          case rel => exact ⟨k + 1, v', by omega, by go_num, rfl, hz3, hr3, hb3⟩
          case measure => simp [intOf]; omega
        | far x nm =>
          have hfx := HFP.out.1 x nm hmem
          have c0 : wr.cell? ⟨g, k * 8, none⟩ = some (.int .u8 x.op) := hc 0 _ rfl
          have c1 := hc 1 _ rfl
          have c2 := hc 2 _ rfl
          have c3 := hc 3 _ rfl
          have c4 := hc 4 _ rfl
          have c5 := hc 5 _ rfl
          have c6 := hc 6 _ rfl
          have c7 := hc 7 _ rfl
          have HX := ahid hfx
          clear hc hfx hmem
          obtain ⟨op, rd, rs1, rs2, is, imm⟩ := x
          have hX := box6 wr ⟨op, rd, rs1, rs2, is, imm⟩
          have hb1 : Below (w.heap.size + 1) W0 (wr.alloc (.cells #[.int .u8 op, .int .u8 rd, .int .u8 rs1, .int .u8 rs2, .bool is, .int .i32 imm] 58)) := HR.out.2.2.alloc hsz1 _
          have hbw1 : Below w.heap.size w (wr.alloc (.cells #[.int .u8 op, .int .u8 rd, .int .u8 rs1, .int .u8 rs2, .bool is, .int .i32 imm] 58)) := HWL.out.alloc (by omega) _
          have hsz2 : (wr.alloc (.cells #[.int .u8 op, .int .u8 rd, .int .u8 rs1, .int .u8 rs2, .bool is, .int .i32 imm] 58)).heap.size = wr.heap.size + 1 := by simp
          have hown1 := HR.out.2.1.alloc (.cells #[.int .u8 op, .int .u8 rd, .int .u8 rs1, .int .u8 rs2, .bool is, .int .i32 imm] 58)
          have hb0' : (wr.alloc (.cells #[.int .u8 op, .int .u8 rd, .int .u8 rs1, .int .u8 rs2, .bool is, .int .i32 imm] 58)).cell? ⟨w.heap.size, 0, none⟩ = some (.slice (some ⟨g, 0, none⟩) L.length cap) := Lib.cell?_alloc_some _ b0
          have hb1' : (wr.alloc (.cells #[.int .u8 op, .int .u8 rd, .int .u8 rs1, .int .u8 rs2, .bool is, .int .i32 imm] 58)).cell? ⟨w.heap.size, 1, none⟩ = some (.slice pm nm' cm) := Lib.cell?_alloc_some _ b1
          have hc7' : (wr.alloc (.cells #[.int .u8 op, .int .u8 rd, .int .u8 rs1, .int .u8 rs2, .bool is, .int .i32 imm] 58)).cell? ⟨g, k * 8 + 7, none⟩ = some (.string nm) := Lib.cell?_alloc_some _ c7
          have HH := ahid (And.intro hX (And.intro hb1 (And.intro hbw1 (And.intro hsz2 (And.intro hown1 (And.intro hb0' (And.intro hb1' hc7')))))))
          clear hX hb1 hbw1 hsz2 hown1 hb0' hb1' hc7'
          go_wp2_with fail
          generalize wr.alloc (.cells #[.int .u8 op, .int .u8 rd, .int .u8 rs1, .int .u8 rs2, .bool is, .int .i32 imm] 58) = W1 at *
          clear b0 b1 c0 c1 c2 c3 c4 c5 c6 c7
          obtain ⟨hX, hb1, hbw1, hsz2, hown1, b0, b1, c7⟩ := HH.out
          replace hX := ahid hX
          replace hsz2 := ahid hsz2
          clear HH
          have hgw := HG.out.1
          have hsW : w.heap.size + 1 < W1.heap.size := by have := hsz2.out; omega
          cases hlk : look M nm.data.toList with
          | none =>
            have HE7 := ahid (show itE M k (.far ⟨op, rd, rs1, rs2, is, imm⟩ nm) = 7 by simp only [itE, hlk])
            have HAt : Hid (∀ W, Below w.heap.size w W → Calls Tryd.prog 31 #[.agg #[.slice (some ⟨g, 0, none⟩) L.length cap, .slice pm nm' cm], .string nm] W fun e W' => e = .returned (.tuple #[.int .i64 0, .int .i64 7]) ∧ Below W.heap.size W W') := ahid fun W hW => (rat_any W (.slice (some ⟨g, 0, none⟩) L.length cap) (.slice pm nm' cm) M (HMQ.out.keep hW) nm HFP.out.2.2).mono fun e W' hh => by
              rw [show atN M nm = 0 by unfold atN; rw [hlk]; rfl, show atE M nm = 7 by unfold atE; rw [hlk]; rfl] at hh
              exact hh
            have HLK := ahid hlk
            clear hlk
            have hlb : w.heap.size < W1.heap.size := by omega
            have hlg : g < W1.heap.size := by omega
            go_region_held3 (fun w' => w'.cell? ⟨w.heap.size, 0, none⟩ = some (.slice (some ⟨g, 0, none⟩) L.length cap) ∧ w'.cell? ⟨w.heap.size, 1, none⟩ = some (.slice pm nm' cm) ∧ w'.cell? ⟨g, k * 8 + 7, none⟩ = some (.string nm)) (first | exact ⟨b0, b1, c7⟩ | exact ⟨d0, d1, d7⟩)
              (first | (go_at_call 31; refine (HAt.out _ ?hb).mono ?_; (case hb => exact hbw1.drew); rintro e w5 ⟨rfl, hb50⟩; have hb5 : Below W1.heap.size W1 w5 := ((Below.refl W1.heap.size W1).drew).trans hb50; have d0 := ((acell hb5).1 _ _ hlb).trans b0; have d1 := ((acell hb5).1 _ _ hlb).trans b1; have d7 := ((acell hb5).1 _ _ hlg).trans c7))
            all_goals
              go_wp2_with fail
              go_ret2
              exact WordsOk.stop HR.out.1 HK.out HE7.out (by decide) (hbw1.trans (hb5.mono (by omega)))
          | some t =>
            have htb := HM.out _ _ hlk
            have HE0 := ahid (show itE M k (.far ⟨op, rd, rs1, rs2, is, imm⟩ nm) = farE ⟨op, rd, rs1, rs2, is, imm⟩ (t - k) by simp only [itE, hlk])
            have HW0 := ahid (show itW M k (.far ⟨op, rd, rs1, rs2, is, imm⟩ nm) = farW ⟨op, rd, rs1, rs2, is, imm⟩ (t - k) by simp only [itW, hlk])
            have HAt : Hid (∀ W, Below w.heap.size w W → Calls Tryd.prog 31 #[.agg #[.slice (some ⟨g, 0, none⟩) L.length cap, .slice pm nm' cm], .string nm] W fun e W' => e = .returned (.tuple #[.int .i64 t, .int .i64 0]) ∧ Below W.heap.size W W') := ahid fun W hW => (rat_any W (.slice (some ⟨g, 0, none⟩) L.length cap) (.slice pm nm' cm) M (HMQ.out.keep hW) nm HFP.out.2.2).mono fun e W' hh => by
              rw [show atN M nm = t by unfold atN; rw [hlk]; rfl, show atE M nm = 0 by unfold atE; rw [hlk]; rfl] at hh
              exact hh
            have HLK := ahid hlk
            clear hlk
            have hlb : w.heap.size < W1.heap.size := by omega
            have hlg : g < W1.heap.size := by omega
            go_region_held3 (fun w' => w'.cell? ⟨w.heap.size, 0, none⟩ = some (.slice (some ⟨g, 0, none⟩) L.length cap) ∧ w'.cell? ⟨w.heap.size, 1, none⟩ = some (.slice pm nm' cm) ∧ w'.cell? ⟨g, k * 8 + 7, none⟩ = some (.string nm)) (first | exact ⟨b0, b1, c7⟩ | exact ⟨d0, d1, d7⟩)
              (first | (go_at_call 31; refine (HAt.out _ ?hb).mono ?_; (case hb => exact hbw1.drew); rintro e w5 ⟨rfl, hb50⟩; have hb5 : Below W1.heap.size W1 w5 := ((Below.refl W1.heap.size W1).drew).trans hb50; have d0 := ((acell hb5).1 _ _ hlb).trans b0; have d1 := ((acell hb5).1 _ _ hlb).trans b1; have d7 := ((acell hb5).1 _ _ hlg).trans c7))
            have hwr1 : IntKind.i64.wrap (t - k) = t - k := IntWalk.i64_in _ (by omega)
            have hwr2 : wrap64 (t - k) = t - k := by unfold wrap64; omega
            obtain ⟨x0, x1, x2, x3, x4, x5, xf⟩ := hX.out.keep hb5 (by have := hsz2.out; omega)
            have HB5 := ahid hb5
            have hsz5 := hb5.size
            clear hb5 hb50 b0 b1 c7 d0 d1 d7
            by_cases hr1 : 1048576 ≤ t - k
            · have HO := ahid (HX.out.out (d := t - k) (by omega))
              go_wp2_with fail
              go_ret2
              exact WordsOk.stop HR.out.1 HK.out (HE0.out.trans HO.out) (by decide) (hbw1.trans (HB5.out.mono (by omega)))
            · by_cases hr2 : t - k < -1048576
              · have HO := ahid (HX.out.out (d := t - k) (by omega))
                go_wp2_with fail
                go_ret2
                exact WordsOk.stop HR.out.1 HK.out (HE0.out.trans HO.out) (by decide) (hbw1.trans (HB5.out.mono (by omega)))
              · have HO := ahid (HX.out.in' (d := t - k) (by omega))
                have hE := renc_any ⟨op, rd, rs1, rs2, is, t - k⟩ (HX.out.bd (d := t - k) (by omega))
                have HEz := ahid (HE0.out.trans HO.out.1)
                have HWD := ahid (HW0.out.trans HO.out.2)
                have h32 : wrap32 (t - k) = t - k := by unfold wrap32; omega
                generalize encS ⟨op, rd, rs1, rs2, is, t - (k : Int)⟩ = q at hE HWD
                generalize encE ⟨op, rd, rs1, rs2, is, t - (k : Int)⟩ = qe at hE
                have HE := ahid hE
                clear hE
                go_wp2_with fail
                refine (HE.out _).mono ?_
                rintro e w4 ⟨rfl, hb4⟩
                have hbs : Below (w.heap.size + 1) W1 (w5.setCell ⟨wr.heap.size, 5, none⟩ (.int .i32 (t - k))) := (HB5.out.mono (by omega)).setCell (by show w.heap.size + 1 ≤ wr.heap.size; omega) _
                have hsz6 : (w5.setCell ⟨wr.heap.size, 5, none⟩ (.int .i32 (t - k))).heap.size = w5.heap.size := by simp [World.setCell]
                have hba : Below (w.heap.size + 1) W0 w4 := hb1.trans (hbs.trans (hb4.mono (by omega)))
                have hown2 := ((ownsRow_far hown1 HB5.out hb4 (b := wr.heap.size) (fun kk hk => by have := HR.out.2.1.lt kk hk; omega)))
                have HB3 := ahid (And.intro hba (show w.heap.size + 1 ≤ w4.heap.size by have := hb4.size; omega))
                clear hb4 hba hbs hsz6 x0 x1 x2 x3 x4 x5 xf
                have hi := HII.out.1
                go_wp2_with (first | (at_builtin; refine wpList_append_own _ rfl _ _ 39 rfl (w.heap.size + 1) 36 i0 (.int .u32 0) 1 4 Tryd.underlying39 hi HII.out.2.1 HII.out.2.2.1 HII.out.2.2.2 rfl (by decide) _ k (u32s (wordsL M 0 (L.take k))) rfl (hown2.alloc _) ⟨w4.heap.size, 0, none⟩ 1 1 [.int .u32 q] rfl rfl (cell_one_new _ _ _) (by simp [Value.oneCell']) (by unfold maxLen; omega) (by omega) (by simp; have := HB3.out.2; omega) ?_; intro v' w3 hown3 hgrow3 hnil3))
                obtain ⟨hz3, hl3⟩ := words_step M L k _ HR.out.1 HK.out HEz.out
                have hb3 := (HB3.out.1.alloc HB3.out.2 _).grown hgrow3 (by simp; have := HB3.out.2; omega) (fun i hi => (HR.out.2.1.lt i hi).1)
                have hr3 : w3.ownsRow (w.heap.size + 1) 36 1 v' (k + 1) (u32s (wordsL M 0 (L.take (k + 1)))) := by rw [hl3, HWD.out]; simpa [u32s] using hown3
                clear hl3
                go_roundw
                case rel => exact ⟨k + 1, v', by omega, by go_num, rfl, hz3, hr3, hb3⟩
                case measure => simp [intOf]; omega
      · obtain rfl : k = L.length := by omega
        have hkL : ¬ ((L.length : Int) < L.length) := by omega
        go_wp2_with fail
        go_ret2
        have hz := HR.out.1
        have hr := HR.out.2.1
        rw [List.take_length] at hz hr
        refine ⟨ov, wordsL M 0 L, by rw [hz]; rfl, by rw [hz, if_pos rfl], ⟨by rw [wordsL_len]; exact hr.1, ?_⟩, HWL.out⟩
        rw [wordsL_len]
        rcases hr.2 with h | ⟨g, cap, cur, h1, h2, h3⟩
        · exact .inl h
        · exact .inr ⟨g, cap, cur, h1, by omega, h3⟩
end Go.Proofs.YtimhpohlaagbpaaDoor
