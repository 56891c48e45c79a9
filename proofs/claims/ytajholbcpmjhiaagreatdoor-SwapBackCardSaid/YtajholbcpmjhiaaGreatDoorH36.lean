/- Several texts in one: SwapMade. -/
import Derived.Test.YtajholbcpmjhiaaGreatDoorH35
set_option linter.unusedVariables false
set_option linter.unusedSimpArgs false
/- The walk of muntinlaw10.made. -/
namespace Go.Proofs.YtajholbcpmjhiaaGreatDoor
open Go.RowKit Go.Maps
structure CaseS where
  nw : Int
  cwp : Int
  inv : Int
  regs : List Int
  frames : List Int
  threads : Int
  runs : Int
  alive : Nat → Bool
  stacks : Nat → Int
  choice : Int
  flags : Int
  pil : Int
  fill : Int
  en : Bool
def CaseS.agg (x : CaseS) (vr vf : Value) : Value := .agg #[.int .i64 x.nw, .int .i64 x.cwp, .int .i64 x.inv, vr, vf, .int .i64 x.threads, .int .i64 x.runs, .bool (x.alive 0), .bool (x.alive 1), .bool (x.alive 2), .bool (x.alive 3), .int .u16 (x.stacks 0), .int .u16 (x.stacks 1), .int .u16 (x.stacks 2), .int .u16 (x.stacks 3), .int .u32 x.choice, .int .u8 x.flags, .int .u8 x.pil, .int .u32 x.fill, .bool x.en]
def CaseS.cells (x : CaseS) (vr vf : Value) : List Value := [.int .i64 x.nw, .int .i64 x.cwp, .int .i64 x.inv, vr, vf, .int .i64 x.threads, .int .i64 x.runs, .bool (x.alive 0), .bool (x.alive 1), .bool (x.alive 2), .bool (x.alive 3), .int .u16 (x.stacks 0), .int .u16 (x.stacks 1), .int .u16 (x.stacks 2), .int .u16 (x.stacks 3), .int .u32 x.choice, .int .u8 x.flags, .int .u8 x.pil, .int .u32 x.fill, .bool x.en]
structure CaseSIn (w : World) (x : CaseS) (vr vf : Value) : Prop where
  r : WordsIn w vr x.regs
  f : HalfsIn w vf x.frames
  i64 : (-9223372036854775808 ≤ x.nw ∧ x.nw ≤ 9223372036854775807) ∧ (-9223372036854775808 ≤ x.cwp ∧ x.cwp ≤ 9223372036854775807) ∧ (-9223372036854775808 ≤ x.inv ∧ x.inv ≤ 9223372036854775807) ∧ (-9223372036854775808 ≤ x.threads ∧ x.threads ≤ 9223372036854775807) ∧ (-9223372036854775808 ≤ x.runs ∧ x.runs ≤ 9223372036854775807)
  st : ∀ t, 0 ≤ x.stacks t ∧ x.stacks t < 65536
  fl : 0 ≤ x.flags ∧ x.flags < 256
  pil : 0 ≤ x.pil ∧ x.pil < 256
  fill : 0 ≤ x.fill ∧ x.fill < 4294967296
  ch : 0 ≤ x.choice ∧ x.choice < 4294967296
theorem CaseSIn.keepb {w w' : World} {x : CaseS} {vr vf : Value} (h : CaseSIn w x vr vf) (hb : Below w.heap.size w w') : CaseSIn w' x vr vf :=
  ⟨h.r.keepb hb, h.f.keepb hb, h.i64, h.st, h.fl, h.pil, h.fill, h.ch⟩
def mayS (x : CaseS) : Prop := (2 ≤ x.nw ∧ x.nw ≤ 32) ∧ (0 ≤ x.cwp ∧ x.cwp < x.nw) ∧ (0 ≤ x.inv ∧ x.inv < x.nw) ∧ x.inv ≠ x.cwp ∧ (1 ≤ x.threads ∧ x.threads ≤ 4) ∧ (0 ≤ x.runs ∧ x.runs < x.threads) ∧ x.pil ≤ 15 ∧ x.flags ≤ 15 ∧ x.regs.length ≤ 512 ∧ x.frames.length ≤ 64
instance (x : CaseS) : Decidable (mayS x) := by unfold mayS; infer_instance
def frmZ (frames : List Int) (k : Nat) : Int := if k < frames.length then frames.getD k 0 else (k : Int) * 16
def spG (f : Fx) (frames : List Int) : Nat → Fx
  | 0 => f
  | k + 1 => setV (spG f frames k) k 0 14 (2048 + frmZ frames k % 1520 * 4)
def fileS (x : CaseS) : Fx := spG (regF x.nw.toNat x.regs x.regs.length) x.frames x.nw.toNat
def aliveI (x : CaseS) (t : Nat) : Int := if x.alive t then 1 else 0
theorem alive_no {x : CaseS} {t : Nat} (h : x.alive t = false) : aliveI x t = 0 := by unfold aliveI; rw [if_neg (by rw [h]; decide)]
theorem alive_yes {x : CaseS} {t : Nat} (h : x.alive t = true) : aliveI x t = 1 := by unfold aliveI; rw [if_pos h]
structure MadeS (x : CaseS) (m : Mx) : Prop where
  kind : m.kind = 0
  nw : (m.f.nw : Int) = x.nw
  pc : m.pc = 1536
  p : m.p = ⟨x.cwp, x.pil, 0, x.flags⟩
  wim : m.wim = 2 ^ x.inv.toNat
  out : m.out = []
  mem : SMem m.mem m.f.nw x.en x.runs x.threads 4 x.stacks (aliveI x)
  sp : FrOk m.f m.f.nw 8192
  file : m.f = fileS x
  ch : m.ch = [x.choice]
theorem sframe_any (n : Int) (hn : 0 ≤ n ∧ n < 65536) (w : World) : Calls Tryz.prog 95 #[.int .u16 n] w fun e w' => e = .returned (.int .u32 (frmX n)) ∧ w = w' := by
  have e0 : IntKind.u32.wrap n = n := IntWalk.u32_in _ (by omega)
  have e1 : n.tmod 1520 = n % 1520 := Int.tmod_eq_emod_of_nonneg hn.1
  have e2 : IntKind.u32.wrap (n % 1520 * 4) = n % 1520 * 4 := IntWalk.u32_in _ (by omega)
  have e3 : IntKind.u32.wrap (2048 + n % 1520 * 4) = 2048 + n % 1520 * 4 := IntWalk.u32_in _ (by omega)
  go_enter Tryz.func95, Tryz.ntmps95
  go_wp2_with fail
  go_ret
  exact ⟨rfl, rfl⟩
structure WS (w wr : World) (G : MG) (M : Nat) (m : Mx) (cs : List Value) : Prop where
  mis : MIs w wr G M m
  off : G.R w.heap.size = .none
  box : ARow wr w.heap.size 76 cs
theorem WS.keep {w wr w' : World} {G : MG} {M : Nat} {m : Mx} {cs : List Value} (h : WS w wr G M m cs) (hb : Below wr.heap.size wr w') : WS w w' G M m cs := ⟨h.mis.keepb hb, h.off, h.box.below hb⟩
theorem WS.to {w wr w' : World} {G : MG} {M : Nat} {m m' : Mx} {cs : List Value} (h : WS w wr G M m cs) (ht : MTo w wr w' G M m') : ∃ G', WS w w' G' M m' cs := by
  obtain ⟨G', h1, h2, h3⟩ := ht.box h.off h.box
  exact ⟨G', h1, h2, h3⟩
theorem WS.toR {w wr w' : World} {G : MG} {M : Nat} {m m' : Mx} {cs : List Value} {v : Value} {l : List Int} (h : WS w wr G M m cs) (hr : MRow wr G v l) (ht : MTo w wr w' G M m') : ∃ G', WS w w' G' M m' cs ∧ MRow w' G' v l := by
  obtain ⟨G', h1, hk⟩ := ht
  exact ⟨G', ⟨h1, hk.2 _ h.box.lt h.off, h.box.of_block (hk.1.block _ h.box.lt (fun hh => hh h.off))⟩, hr.keep hk⟩
theorem MRow.u32s {w0 w : World} {G : MG} {M : Nat} {m : Mx} {v : Value} {l : List Int} (h : MRow w G v l) (hm : MIs w0 w G M m) (hw : Words l) : U32s (· = G.gB) w v l := by
  obtain ⟨b, o, p, c, rfl, hl, hp, hc⟩ := h.1.shape
  refine ⟨hw, p, c, rfl, fun h0 => ?_⟩
  obtain rfl := hp h0
  refine ⟨b, o, rfl, fun e => ?_, World.block_lt_of_cell? _ _ (hc 0 h0), fun k hk => hc k hk⟩
  have hb : b = G.gB := e
  have := (h.2 b rfl).1
  rw [hb, hm.at'.rg] at this
  simp at this
set_option maxRecDepth 100000 in
set_option maxHeartbeats 8000000 in
theorem smade_any (w : World) (ht : Tab w) (hbr : Bru w) (x : CaseS) (vr vf : Value) (h : CaseSIn w x vr vf) (hm : mayS x) :
    Calls Tryz.prog 35 #[x.agg vr vf] w fun e w' => ∃ M G m, e = .returned (.pointer (some ⟨M, 0, none⟩)) ∧ MIs w w' G M m ∧ MadeS x m := by
  obtain ⟨nw, hnw⟩ : ∃ n : Nat, x.nw = n := ⟨x.nw.toNat, by have := hm.1; omega⟩
  have h2 : 2 ≤ nw ∧ nw ≤ 32 := by have := hm.1; omega
  obtain ⟨xnw, cwp, inv, regs, frames, threads, runs, alive, stacks, choice, flags, pil, fill, en⟩ := x
  obtain rfl : xnw = (nw : Int) := hnw
  have HT := mhid ht
  have HBR := mhid hbr
  have HX := mhid h
  have HMY := mhid hm
  obtain ⟨pr, cr, rfl⟩ : ∃ p c, vr = .slice p regs.length c := by obtain ⟨⟨_, p, c, e, _⟩, _⟩ := h.r; exact ⟨p, c, e⟩
  obtain ⟨pf, cf, rfl⟩ : ∃ p c, vf = .slice p frames.length c := by obtain ⟨_, _, p, c, _, _, e, _⟩ := h.f; exact ⟨p, c, e⟩
  clear ht hbr h hm
  obtain ⟨W1, hW1⟩ : ∃ W1, W1 = w.alloc (.cells (CaseS.cells ⟨nw, cwp, inv, regs, frames, threads, runs, alive, stacks, choice, flags, pil, fill, en⟩ (.slice pr regs.length cr) (.slice pf frames.length cf)).toArray 76) := ⟨_, rfl⟩
  have hb1 : Below w.heap.size w W1 := by rw [hW1]; exact (Below.refl _ _).alloc (Nat.le_refl _) _
  have hB : ARow W1 w.heap.size 76 (CaseS.cells ⟨nw, cwp, inv, regs, frames, threads, runs, alive, stacks, choice, flags, pil, fill, en⟩ (.slice pr regs.length cr) (.slice pf frames.length cf)) := by rw [hW1]; exact ARow.fresh w _ _
  have HB1 := mhid hb1
  have HB := mhid hB
  have hlt1 := hB.lt
  unfold CaseS.cells at HB hW1
  clear hb1 hB
  have b0 := HB.out.cell (k := 0) rfl
  rw [hW1] at b0
  go_enter Tryz.func35, Tryz.ntmps35
  unfold CaseS.agg
  go_wp2_with fail
  rw [← hW1]
  clear hW1 b0
  refine (mw_new nw 8192 w W1 HB1.out h2.1 h2.2 (by decide) (by decide)).mono ?_
  rintro e W2 ⟨M, G, rfl, hM, hGn, hb2⟩
  have HM2 := mhid hM
  have HB2 := mhid (HB1.out.trans (hb2.mono HB1.out.size))
  have HBX := mhid (HB.out.below hb2)
  clear hM hb2 HB HB1
  go_wp2_with fail
  refine (new_lst W2 W2 (Below.refl _ _)).mono ?_
  rintro e W3 ⟨pa, S0, rfl, hl, hS0, hb3⟩
  have H0 := mhid (show BsAt W2 W3 pa S0 asm0 from ⟨hl, TabLo.start (HT.out.keep HB2.out) hb3, hb3⟩)
  have HM3 := mhid (HM2.out.keepb hb3)
  have HB3 := mhid (HB2.out.trans (hb3.mono HB2.out.size))
  have HBX3 := mhid (HBX.out.below hb3)
  clear hl hb3 hS0
  have b0 := HBX3.out.cell (k := 0) rfl
  go_wp2_with fail
  have HF := mhid (swap_is h2.1 h2.2)
  have hGlt : ∀ k, G.R k ≠ .none → k < W2.heap.size := fun k hk => HM2.out.at'.lt k hk
  have HGL := mhid (And.intro hGlt (And.intro HB2.out.size (show w.heap.size < W2.heap.size from HBX.out.lt)))
  clear hGlt b0
  refine (swap_any H0.out h2.1 h2.2 (fun n hn => by simp [names, asm0]) (by decide) (by decide)).mono ?_
  rintro e W5 ⟨rfl, S1, h1, o1, r1⟩
  have HM5 := mhid (HM3.out.far o1 (fun k hk => (H0.out.lst.lo k hk).1) HGL.out.1 HGL.out.2.1)
  have HBX5 := mhid (HBX3.out.of_block (o1.block _ HBX3.out.lt (fun hk => by have := (H0.out.lst.lo _ hk).1; have := HGL.out.2.2; omega)))
  have H2 := mhid (show BsAt W2 W5 pa S1 (asm0.swap nw) from h1)
  clear h1 o1 r1 H0 HM2 HM3 HBX HBX3
  go_wp2_with fail
  obtain ⟨sv, am, K, hA, hO, hK⟩ := H2.out.lst.ex
  have HA := mhid hA
  clear hA hO hK
  refine (awords_any W5 H2.out.tab.tab pa am sv K (asm0.swap nw).L (asm0.swap nw).M HA.out (by rw [len_swap]; decide) (fun nm t ht => ?_)).mono ?_
  · unfold look at ht
    rw [Option.map_eq_some_iff] at ht
    obtain ⟨q, hq, rfl⟩ := ht
    have := HF.out.m q (List.mem_of_find?_eq_some hq)
    omega
  rintro e W6 ⟨v, l, rfl, hl, hown, hb6⟩
  rw [HF.out.e] at hl ⊢
  rw [if_pos rfl, HF.out.l] at hl
  have HM6 := mhid (HM5.out.keepb hb6)
  have HBX6 := mhid (HBX5.out.below hb6)
  have HA6 := mhid (HA.out.keep (Only.of_below (S := fun _ => False) hb6) (fun _ _ h => h) (fun _ _ h => h))
  have HBW := mhid (H2.out.bel.trans (hb6.mono H2.out.bel.size))
  have HLL := mhid (show l.length = 101 from by rw [hl, List.length_map]; exact swapI_len nw)
  have hww : Words l := by rw [hl]; exact encs_words HF.out.ok
  have HROW := mhid hown
  obtain ⟨-, pl, cl, rfl, -⟩ := Reads32.of_own hown
  have HLW := mhid (And.intro hl hww)
  have hW5 : W2.heap.size ≤ W5.heap.size := H2.out.bel.size
  have hAT := aat_made W6 pa am sv K (asm0.swap nw).L (asm0.swap nw).M HA6.out ⟨nmYield.toArray⟩ (by decide)
  rw [HF.out.y, HF.out.ye] at hAT
  have HAT := mhid hAT
  have hAE := aat_made W6 pa am sv K (asm0.swap nw).L (asm0.swap nw).M HA6.out ⟨nmEnd.toArray⟩ (by decide)
  rw [HF.out.z, HF.out.ze] at hAE
  have HAE := mhid hAE
  clear hl hww hown hb6 hAT hAE HM5 HBX5 HA
  go_wp2_with fail
  refine HAT.out.mono ?_
  rintro e W7 ⟨rfl, rfl⟩
  go_wp2_with fail
  refine HAE.out.mono ?_
  rintro e W7 ⟨rfl, rfl⟩
  have hl192 : ¬ ((l.length : Int) > 192) := by have := HLL.out; omega
  have HGN := mhid (hGn w.heap.size hlt1)
  clear HAT HAE
  have WW0 := mhid (show WS w W6 G M (newM nw 8192) _ from ⟨HM6.out, HGN.out, HBX6.out⟩)
  have WR0 := mhid (show MRow W6 G (.slice pl l.length cl) l from ⟨Reads32.of_own HROW.out, fun k hk => by
    have h1 := own_range HROW.out k hk
    exact ⟨by
      by_cases e : G.R k = .none
      · exact e
      · have := HGL.out.1 k e; omega, h1.2⟩⟩)
  have HC0 := mhid (show (newM nw 8192).kind = 0 ∧ (newM nw 8192).f = Fx.new nw ∧ (newM nw 8192).out = [] ∧ (newM nw 8192).mem.length = 8192 from ⟨rfl, rfl, rfl, by show (List.replicate 8192 (0 : Int)).length = 8192; rw [List.length_replicate]⟩)
  clear HM6 HGN HBX6 HROW HGL HA6 HBW H2 hGn
  go_wp2_with fail
  go_loopw [12] (fun i wr => ∃ (k : Nat) (G : MG) (m : Mx), k ≤ 2048 ∧ i = .int .i64 ((4 * k : Nat) : Int) ∧ Hid (WS w wr G M m [.int .i64 nw, .int .i64 cwp, .int .i64 inv, .slice pr regs.length cr, .slice pf frames.length cf, .int .i64 threads, .int .i64 runs, .bool (alive 0), .bool (alive 1), .bool (alive 2), .bool (alive 3), .int .u16 (stacks 0), .int .u16 (stacks 1), .int .u16 (stacks 2), .int .u16 (stacks 3), .int .u32 choice, .int .u8 flags, .int .u8 pil, .int .u32 fill, .bool en]) ∧ Hid (MRow wr G (.slice pl l.length cl) l) ∧ Hid (m.kind = 0 ∧ m.f = Fx.new nw ∧ m.out = [] ∧ m.mem.length = 8192)) (fun i _ => 8192 - (intOf i).toNat)
  case atStart => exact ⟨0, _, _, by omega, rfl, WW0, WR0, HC0⟩
  case round =>
    clear WW0 HC0 WR0
    obtain ⟨k, G, m, hk, rfl, WQ, WR, HC⟩ := hrel
    by_cases hlt : k < 2048
    · have h1 : ((4 * k : Nat) : Int) < 8192 := by omega
      have h1' : (4 * (k : Int)) < 8192 := by omega
      have b18 := WQ.out.box.cell (k := 18) rfl
      have HMEM := mhid (fun (w' : World) (hb : Below wr.heap.size wr w') => mmem_any w' G M m (WQ.out.keep hb).mis.at')
      have HK7 := mhid (fun (w' : World) (hb : Below wr.heap.size wr w') => (WQ.out.keep hb).box.cell (k := 18) rfl)
      have e4 : IntKind.i64.wrap (4 * (k : Int) + 4) = ((4 * (k + 1) : Nat) : Int) := by rw [IntWalk.i64_in _ (by omega)]; omega
      have HST := mhid (fun (w' : World) (hb : Below wr.heap.size wr w') => mw_store w w' G M m (WQ.out.keep hb).mis (IntKind.u32.wrap (4 * (k : Int))) (IntKind.u32.wrap (fill + IntKind.u32.wrap (IntKind.u32.wrap (4 * (k : Int)) * 2654435761))) (u32w_bd _) (u32w_bd _))
      have HTO := mhid (fun (w' w'' : World) (m' : Mx) (hb : Below wr.heap.size wr w') (ht : MTo w w' w'' G M m') => (WQ.out.keep hb).toR (WR.out.keepb hb) ht)
      have hbW : Below wr.heap.size wr wr.drew := (Below.refl _ _).drew
      go_upto_region 13 with (fail)
      go_region_held3 (fun w' => w'.cell? ⟨w.heap.size, 18, none⟩ = some (.int .u32 fill)) (first | (with_reducible exact b18x) | (with_reducible exact HK7.out _ hbW) | (refine HK7.out _ ?_; go_grown; done))
        (first
          | (go_at_call 16; (with_reducible refine (HMEM.out _ hbW).mono ?_); rintro e wx ⟨rfl, rfl⟩)
          | (go_at_call 17; (with_reducible refine (HST.out _ hbW).mono ?_); rintro e w5 ⟨rfl, hto⟩; obtain ⟨G5, hW5, hR5⟩ := HTO.out _ _ _ hbW hto; have b18x := hW5.box.cell (k := 18) rfl))
      have HW5 := mhid hW5
      have HR5 := mhid hR5
      have HC5 := mhid (And.intro HC.out.1 (And.intro HC.out.2.1 (And.intro HC.out.2.2.1 (show (storeV m.mem (IntKind.u32.wrap (4 * (k : Int))) 4 (IntKind.u32.wrap (fill + IntKind.u32.wrap (IntKind.u32.wrap (4 * (k : Int)) * 2654435761)))).length = 8192 from by unfold storeV; split <;> first | (rw [storeS_len]; exact HC.out.2.2.2) | exact HC.out.2.2.2))))
      clear hW5 hR5 hto b18 b18x
      go_wp2_with fail
      exact ⟨⟨k + 1, G5, _, by omega, by go_num, HW5, HR5, HC5⟩, by simp [intOf] <;> omega⟩
    · obtain rfl : k = 2048 := by omega
      have hq := mw_put w wr G M m WQ.out.mis 768 (by decide) (by decide) (.slice pl l.length cl) l (by rw [HLL.out]; decide) (WR.out.u32s WQ.out.mis HLW.out.2)
      have HPU := mhid hq
      clear hq
      go_wp2_with fail
      refine (mmem_any wr G M m WQ.out.mis.at').mono ?_
      rintro e w' ⟨rfl, rfl⟩
      go_wp2_with fail
      refine HPU.out.mono ?_
      rintro e w7 ⟨rfl, hto⟩
      obtain ⟨G7, hW7⟩ := WQ.out.to hto
      have WQ7 := mhid hW7
      clear hto hW7 WQ WR HPU
      have he1 := encS_bd jumpS_may3.1
      have he2 := encS_bd jumpS_may4.1
      go_wp2_with fail
      refine (renc_any (jumpS 120) jumpS_may3.1 w7).mono ?_
      rintro e w8 ⟨rfl, hb8⟩
      have WQ8 := mhid (WQ7.out.keep hb8)
      clear hb8 WQ7
      go_wp2_with fail
      refine (renc_any (jumpS 112) jumpS_may4.1 w8).mono ?_
      rintro e w9 ⟨rfl, hb9⟩
      have WQ9 := mhid (WQ8.out.keep hb9)
      clear hb9 WQ8
      go_wp2_with fail
      refine (mmem_any w9 _ M _ WQ9.out.mis.at').mono ?_
      rintro e w' ⟨rfl, rfl⟩
      go_wp2_with fail
      refine (mw_store w w9 _ M _ WQ9.out.mis 304 _ (by decide) he1).mono ?_
      rintro e w10 ⟨rfl, hto⟩
      obtain ⟨G10, hW10⟩ := WQ9.out.to hto
      have WQ10 := mhid hW10
      clear hto hW10 WQ9
      go_wp2_with fail
      refine (mmem_any w10 _ M _ WQ10.out.mis.at').mono ?_
      rintro e w' ⟨rfl, rfl⟩
      go_wp2_with fail
      refine (mw_store w w10 _ M _ WQ10.out.mis 320 _ (by decide) he2).mono ?_
      rintro e w11 ⟨rfl, hto⟩
      obtain ⟨G11, hW11⟩ := WQ10.out.to hto
      have WQ11 := mhid hW11
      clear hto hW11 WQ10
      have b19 := WQ11.out.box.cell (k := 19) rfl
      obtain ⟨ub, hub⟩ : ∃ ub, ub = en := ⟨_, rfl⟩
      rw [← hub] at b19
      have HUB := mhid hub
      clear hub
      obtain ⟨wr0, hwr0⟩ : ∃ x, x = w11 := ⟨_, rfl⟩
      go_upto_if 123 with (fail)
      go_cut [17] from 122 (fun kv w' => w' = wr0 ∧ kv = .int .i32 (trapI en).imm)
      case first =>
        cases ub
        · go_wp2_with fail
          go_meet
          exact ⟨hwr0.symm, by rw [← HUB.out]; rfl⟩
        · go_wp2_with fail
          go_meet
          exact ⟨hwr0.symm, by rw [← HUB.out]; rfl⟩
      case rest =>
        obtain ⟨rfl, rfl⟩ := hcut
        obtain rfl := hwr0
        clear b19 HUB
        go_wp2_with fail
        refine (renc_any (trapI en) (trapI_bd en) _).mono ?_
        rintro e w12 ⟨rfl, hb12⟩
        have WQ12 := mhid (WQ11.out.keep hb12)
        clear hb12 WQ11
        go_wp2_with fail
        refine (mmem_any w12 _ M _ WQ12.out.mis.at').mono ?_
        rintro e w' ⟨rfl, rfl⟩
        have hxb := encS_bd (trapI_bd en)
        go_wp2_with fail
        refine (mw_store w w12 _ M _ WQ12.out.mis 1536 _ (by decide) hxb).mono ?_
        rintro e w13 ⟨rfl, hto⟩
        obtain ⟨G13, hW13⟩ := WQ12.out.to hto
        have WQ13 := mhid hW13
        clear hto hW13 WQ12 hxb he1 he2
        obtain ⟨m13, hm13⟩ : ∃ m13 : Mx, m13 = { m with mem := storeV (storeV (storeV (putV m.mem 768 l) 304 4 (encS (jumpS 120))) 320 4 (encS (jumpS 112))) 1536 4 (encS (trapI en)) } := ⟨_, rfl⟩
        have WQ13 := mhid (show WS w w13 G13 M m13 _ from by rw [hm13]; exact WQ13.out)
        have HM13 := mhid hm13
        clear hm13
        have hru : IntKind.u32.wrap runs = runs := IntWalk.u32_in _ (by have := HMY.out.2.2.2.2.2.1; have := HMY.out.2.2.2.2.1; simp only at *; omega)
        have htu : IntKind.u32.wrap threads = threads := IntWalk.u32_in _ (by have := HMY.out.2.2.2.2.1; simp only at *; omega)
        have hrb : 0 ≤ runs ∧ runs < 4294967296 := by have := HMY.out.2.2.2.2.2.1; have := HMY.out.2.2.2.2.1; simp only at *; omega
        have htb : 0 ≤ threads ∧ threads < 4294967296 := by have := HMY.out.2.2.2.2.1; simp only at *; omega
        have b6 := WQ13.out.box.cell (k := 6) rfl
        have HMEM := mhid (fun (w' : World) (hb : Below w13.heap.size w13 w') => mmem_any w' G13 M m13 (WQ13.out.keep hb).mis.at')
        have HK7 := mhid (fun (w' : World) (hb : Below w13.heap.size w13 w') => (WQ13.out.keep hb).box.cell (k := 6) rfl)
        have HST := mhid (fun (w' : World) (hb : Below w13.heap.size w13 w') => mw_store w w' G13 M m13 (WQ13.out.keep hb).mis 128 runs (by decide) hrb)
        have HTO := mhid (fun (w' w'' : World) (m' : Mx) (hb : Below w13.heap.size w13 w') (ht : MTo w w' w'' G13 M m') => (WQ13.out.keep hb).to ht)
        have hbW : Below w13.heap.size w13 w13.drew := (Below.refl _ _).drew
        go_upto_region 24 with (fail)
        go_region_held3 (fun w' => w'.cell? ⟨w.heap.size, 6, none⟩ = some (.int .i64 runs)) (first | (with_reducible exact b6x) | (with_reducible exact HK7.out _ hbW) | (refine HK7.out _ ?_; go_grown; done))
          (first
            | (go_at_call 16; (with_reducible refine (HMEM.out _ hbW).mono ?_); rintro e wx ⟨rfl, rfl⟩)
            | (go_at_call 17; (with_reducible refine (HST.out _ hbW).mono ?_); rintro e w14 ⟨rfl, hto⟩; obtain ⟨G14, hW14⟩ := HTO.out _ _ _ hbW hto; have b6x := hW14.box.cell (k := 6) rfl))
        have WQ14 := mhid hW14
        clear hto hW14 b6 b6x HMEM HK7 HST HTO hbW
        have b5 := WQ14.out.box.cell (k := 5) rfl
        have HMEM := mhid (fun (w' : World) (hb : Below w14.heap.size w14 w') => mmem_any w' G14 M _ (WQ14.out.keep hb).mis.at')
        have HK7 := mhid (fun (w' : World) (hb : Below w14.heap.size w14 w') => (WQ14.out.keep hb).box.cell (k := 5) rfl)
        have HST := mhid (fun (w' : World) (hb : Below w14.heap.size w14 w') => mw_store w w' G14 M _ (WQ14.out.keep hb).mis 132 threads (by decide) htb)
        have HTO := mhid (fun (w' w'' : World) (m' : Mx) (hb : Below w14.heap.size w14 w') (ht : MTo w w' w'' G14 M m') => (WQ14.out.keep hb).to ht)
        have hbW : Below w14.heap.size w14 w14.drew := (Below.refl _ _).drew
        go_upto_region 25 with (fail)
        go_region_held3 (fun w' => w'.cell? ⟨w.heap.size, 5, none⟩ = some (.int .i64 threads)) (first | (with_reducible exact b5x) | (with_reducible exact HK7.out _ hbW) | (refine HK7.out _ ?_; go_grown; done))
          (first
            | (go_at_call 16; (with_reducible refine (HMEM.out _ hbW).mono ?_); rintro e wx ⟨rfl, rfl⟩)
            | (go_at_call 17; (with_reducible refine (HST.out _ hbW).mono ?_); rintro e w15 ⟨rfl, hto⟩; obtain ⟨G15, hW15⟩ := HTO.out _ _ _ hbW hto; have b5x := hW15.box.cell (k := 5) rfl))
        have WQ15 := mhid hW15
        clear hto hW15 b5 b5x HMEM HK7 HST HTO hbW
        obtain ⟨m15, hm15⟩ : ∃ m15 : Mx, m15 = { m13 with mem := storeV (storeV m13.mem 128 4 runs) 132 4 threads } := ⟨_, rfl⟩
        have WQ15 := mhid (show WS w w15 G15 M m15 _ from by rw [hm15]; exact WQ15.out)
        have HC15 := mhid (show m15.kind = 0 ∧ m15.f = Fx.new nw ∧ m15.out = [] ∧ SMem m15.mem nw en runs threads 0 stacks (aliveI ⟨nw, cwp, inv, regs, frames, threads, runs, alive, stacks, choice, flags, pil, fill, en⟩) from by
          have hme : m15.mem = storeV (storeV (storeV (storeV (storeV (putV m.mem 768 l) 304 4 (encS (jumpS 120))) 320 4 (encS (jumpS 112))) 1536 4 (encS (trapI en))) 128 4 runs) 132 4 threads := by simp only [hm15, HM13.out]
          have hke : m15.kind = m.kind ∧ m15.f = m.f ∧ m15.out = m.out := by simp only [hm15, HM13.out, and_self]
          have hst := SMem.start (nw := nw) HF.out (d := m.mem) HC.out.2.2.2 en hrb htb stacks (aliveI ⟨nw, cwp, inv, regs, frames, threads, runs, alive, stacks, choice, flags, pil, fill, en⟩)
          rw [← HLW.out.1, ← hme] at hst
          exact ⟨hke.1.trans HC.out.1, hke.2.1.trans HC.out.2.1, hke.2.2.trans HC.out.2.2.1, hst⟩)
        clear hm15 HC HM13 hru htu hrb htb WQ13 WQ14
        go_wp2_with fail
        go_loopw [20] (fun i wr => ∃ (k : Nat) (G : MG) (m : Mx), k ≤ 4 ∧ i = .int .i64 (k : Int) ∧ Hid (WS w wr G M m [.int .i64 nw, .int .i64 cwp, .int .i64 inv, .slice pr regs.length cr, .slice pf frames.length cf, .int .i64 threads, .int .i64 runs, .bool (alive 0), .bool (alive 1), .bool (alive 2), .bool (alive 3), .int .u16 (stacks 0), .int .u16 (stacks 1), .int .u16 (stacks 2), .int .u16 (stacks 3), .int .u32 choice, .int .u8 flags, .int .u8 pil, .int .u32 fill, .bool en]) ∧ Hid (m.kind = 0 ∧ m.f = Fx.new nw ∧ m.out = [] ∧ SMem m.mem nw en runs threads k stacks (aliveI ⟨nw, cwp, inv, regs, frames, threads, runs, alive, stacks, choice, flags, pil, fill, en⟩))) (fun i _ => 4 - (intOf i).toNat)
        case atStart => exact ⟨0, _, _, by omega, rfl, WQ15, HC15⟩
        case round =>
          clear WQ15 HC15
          obtain ⟨k, G, m, hk, rfl, WQ, HC⟩ := hrel
          by_cases hlt : k < 4
          · have h1 : (k : Int) < 4 := by omega
            have hca : ([.int .i64 nw, .int .i64 cwp, .int .i64 inv, .slice pr regs.length cr, .slice pf frames.length cf, .int .i64 threads, .int .i64 runs, .bool (alive 0), .bool (alive 1), .bool (alive 2), .bool (alive 3), .int .u16 (stacks 0), .int .u16 (stacks 1), .int .u16 (stacks 2), .int .u16 (stacks 3), .int .u32 choice, .int .u8 flags, .int .u8 pil, .int .u32 fill, .bool en] : List Value)[7 + k]? = some (.bool (alive k)) := by
              rcases (show k = 0 ∨ k = 1 ∨ k = 2 ∨ k = 3 by omega) with rfl | rfl | rfl | rfl <;> rfl
            have hcs : ([.int .i64 nw, .int .i64 cwp, .int .i64 inv, .slice pr regs.length cr, .slice pf frames.length cf, .int .i64 threads, .int .i64 runs, .bool (alive 0), .bool (alive 1), .bool (alive 2), .bool (alive 3), .int .u16 (stacks 0), .int .u16 (stacks 1), .int .u16 (stacks 2), .int .u16 (stacks 3), .int .u32 choice, .int .u8 flags, .int .u8 pil, .int .u32 fill, .bool en] : List Value)[11 + k]? = some (.int .u16 (stacks k)) := by
              rcases (show k = 0 ∨ k = 1 ∨ k = 2 ∨ k = 3 by omega) with rfl | rfl | rfl | rfl <;> rfl
            have ba := WQ.out.box.cell hca
            have HCS := mhid hcs
            have hst := HX.out.st k
            have HST := mhid (show 0 ≤ stacks k ∧ stacks k < 65536 from hst)
            clear hca hcs hst
            obtain ⟨ub, hub⟩ : ∃ ub, ub = alive k := ⟨_, rfl⟩
            rw [← hub] at ba
            have HUB := mhid hub
            clear hub
            obtain ⟨wr0, hwr0⟩ : ∃ x, x = wr := ⟨_, rfl⟩
            go_upto_if 153 with (fail)
            go_cut [21] from 146 to 174 (fun nv w' => w' = wr0 ∧ nv = .int .u32 (aliveI ⟨nw, cwp, inv, regs, frames, threads, runs, alive, stacks, choice, flags, pil, fill, en⟩ k))
            case first =>
              cases ub
              · go_wp2_with fail
                go_meet
                exact ⟨hwr0.symm, congrArg (Value.int IntKind.u32) (alive_no (x := ⟨nw, cwp, inv, regs, frames, threads, runs, alive, stacks, choice, flags, pil, fill, en⟩) HUB.out.symm).symm⟩
              · go_wp2_with fail
                go_meet
                exact ⟨hwr0.symm, congrArg (Value.int IntKind.u32) (alive_yes (x := ⟨nw, cwp, inv, regs, frames, threads, runs, alive, stacks, choice, flags, pil, fill, en⟩) HUB.out.symm).symm⟩
            case rest =>
              obtain ⟨rfl, rfl⟩ := hcut
              obtain rfl := hwr0
              obtain ⟨wq, rfl⟩ : ∃ W, W = wc := ⟨_, rfl⟩
              have hab : 0 ≤ aliveI ⟨nw, cwp, inv, regs, frames, threads, runs, alive, stacks, choice, flags, pil, fill, en⟩ k ∧ aliveI ⟨nw, cwp, inv, regs, frames, threads, runs, alive, stacks, choice, flags, pil, fill, en⟩ k ≤ 1 := by unfold aliveI; split <;> omega
              have HSM := mhid (HC.out.2.2.2.put hlt HST.out hab)
              generalize aliveI ⟨nw, cwp, inv, regs, frames, threads, runs, alive, stacks, choice, flags, pil, fill, en⟩ k = av at *
              have bs := WQ.out.box.cell HCS.out
              have g1 : IntKind.u32.wrap (k : Int) = (k : Int) := IntWalk.u32_in _ (by omega)
              have g2 : IntKind.u32.wrap (16 * (k : Int)) = 16 * (k : Int) := IntWalk.u32_in _ (by omega)
              have g3 : IntKind.u32.wrap (64 + 16 * (k : Int)) = 64 + 16 * (k : Int) := IntWalk.u32_in _ (by omega)
              have g4 : IntKind.i64.wrap (4 * (k : Int)) = 4 * (k : Int) := IntWalk.i64_in _ (by omega)
              have g5 : IntKind.i64.wrap (1700 + 4 * (k : Int)) = 1700 + 4 * (k : Int) := IntWalk.i64_in _ (by omega)
              have g6 : IntKind.u32.wrap (1700 + 4 * (k : Int)) = 1700 + 4 * (k : Int) := IntWalk.u32_in _ (by omega)
              have g7 : IntKind.i64.wrap (5000 + (k : Int)) = 5000 + (k : Int) := IntWalk.i64_in _ (by omega)
              have g8 : IntKind.u32.wrap (5000 + (k : Int)) = 5000 + (k : Int) := IntWalk.u32_in _ (by omega)
              have g9 : IntKind.i64.wrap ((k : Int) + 1) = ((k + 1 : Nat) : Int) := by rw [IntWalk.i64_in _ (by omega)]; omega
              obtain ⟨sk, hsk⟩ : ∃ sk, sk = stacks k := ⟨_, rfl⟩
              rw [← hsk] at bs HST HSM
              rw [← hsk] at HCS
              clear hsk ba HUB
              have hgB : G.gB < wq.heap.size := WQ.out.mis.at'.lt G.gB (by rw [WQ.out.mis.at'.rg]; simp)
              have HFR := mhid (fun (w' : World) => sframe_any sk HST.out w')
              have HMEM := mhid (fun (w' : World) (hb : Below wq.heap.size wq w') => mmem_any w' G M m (WQ.out.keep hb).mis.at')
              have hbx : ∀ w' : World, Below wq.heap.size wq w' → w'.cell? ⟨w.heap.size, 11 + k, none⟩ = some (.int .u16 sk) := fun w' hb => (hb.cell (World.block_lt_of_cell? _ _ bs)).trans bs
              have HKS := mhid hbx
              clear hbx
              have hfxb : 0 ≤ frmX sk ∧ frmX sk < 4294967296 := by have := HST.out; unfold frmX; omega
              have HPT := mhid (fun (V : World) (hb : Below wq.heap.size wq V) (hr : ARow V wq.heap.size 24 [.int .u32 (1700 + 4 * (k : Int)), .int .u32 (frmX sk), .int .u32 (5000 + (k : Int)), .int .u32 av]) => mw_put w V G M m (WQ.out.keep hb).mis (64 + 16 * (k : Int)) (by omega) (by omega) (.slice (some ⟨wq.heap.size, 0, none⟩) 4 4) [1700 + 4 * (k : Int), frmX sk, 5000 + (k : Int), av] (by show 4 ≤ maxLen; unfold maxLen; omega) ⟨fun y hy => by
                  simp only [List.mem_cons, List.not_mem_nil, or_false] at hy
                  rcases hy with rfl | rfl | rfl | rfl <;> omega, some ⟨wq.heap.size, 0, none⟩, 4, rfl, fun _ => ⟨wq.heap.size, 0, rfl, (by intro e; have e2 : wq.heap.size = G.gB := e; omega), hr.lt, fun j hj => by
                  have hj4 : j < 4 := hj
                  rw [Nat.zero_add]
                  rcases (show j = 0 ∨ j = 1 ∨ j = 2 ∨ j = 3 by omega) with rfl | rfl | rfl | rfl
                  · exact hr.cell (k := 0) rfl
                  · exact hr.cell (k := 1) rfl
                  · exact hr.cell (k := 2) rfl
                  · exact hr.cell (k := 3) rfl⟩⟩)
              have HTO := mhid (fun (w' w'' : World) (m' : Mx) (hb : Below wq.heap.size wq w') (ht : MTo w w' w'' G M m') => (WQ.out.keep hb).to ht)
              have hle0 : wq.heap.size ≤ wq.heap.size := Nat.le_refl _
              clear hfxb hgB
              go_upto_region 32 with (fail)
              go_region_held3 (fun w' => w'.cell? ⟨w.heap.size, 11 + k, none⟩ = some (.int .u16 sk)) (first | (with_reducible exact b5x) | (refine HKS.out _ ?_; go_grown; done))
                (first
                  | (go_at_call 16; (with_reducible refine (HMEM.out _ (by go_grown)).mono ?_); rintro e wx ⟨rfl, rfl⟩)
                  | (go_at_call 95; (with_reducible refine (HFR.out _).mono ?_); rintro e wy ⟨rfl, rfl⟩)
                  | (go_at_call 53; (refine (HPT.out _ (by go_grown) (show ARow (wq.drew.alloc (.cells #[.int .u32 (1700 + 4 * (k : Int)), .int .u32 (frmX sk), .int .u32 (5000 + (k : Int)), .int .u32 av] 24)) wq.heap.size _ _ from ARow.fresh wq.drew _ _)).mono ?_); rintro e w16 ⟨rfl, hto⟩; obtain ⟨G16, hW16⟩ := HTO.out _ _ _ (by go_grown) hto; have b5x := hW16.box.cell HCS.out))
              all_goals
                have hadr : (64 + 16 * (k : Int)) = ((64 + 16 * k : Nat) : Int) := by omega
                have HW16 := mhid hW16
                have HC16 := mhid (show ({ m with mem := putV m.mem (64 + 16 * (k : Int)) [1700 + 4 * (k : Int), frmX sk, 5000 + (k : Int), av] } : Mx).kind = 0 ∧ ({ m with mem := putV m.mem (64 + 16 * (k : Int)) [1700 + 4 * (k : Int), frmX sk, 5000 + (k : Int), av] } : Mx).f = Fx.new nw ∧ ({ m with mem := putV m.mem (64 + 16 * (k : Int)) [1700 + 4 * (k : Int), frmX sk, 5000 + (k : Int), av] } : Mx).out = [] ∧ SMem ({ m with mem := putV m.mem (64 + 16 * (k : Int)) [1700 + 4 * (k : Int), frmX sk, 5000 + (k : Int), av] } : Mx).mem nw en runs threads (k + 1) stacks (aliveI ⟨nw, cwp, inv, regs, frames, threads, runs, alive, stacks, choice, flags, pil, fill, en⟩) from ⟨HC.out.1, HC.out.2.1, HC.out.2.2.1, by simp only; rw [hadr]; exact HSM.out⟩)
                clear hadr hto hW16 b5x bs
                generalize ({ m with mem := putV m.mem (64 + 16 * (k : Int)) [1700 + 4 * (k : Int), frmX sk, 5000 + (k : Int), av] } : Mx) = m16 at *
                go_wp2_with fail
                go_roundw
                case rel => exact ⟨k + 1, G16, m16, by omega, by go_num, HW16, HC16⟩
                case measure => simp [intOf] <;> omega
          · obtain rfl : k = 4 := by omega
            have HF6 := mhid (show m.f = regF nw regs 0 from HC.out.2.1)
            have HC6 := mhid (show m.kind = 0 ∧ m.f.nw = nw ∧ m.out = [] ∧ SMem m.mem nw en runs threads 4 stacks (aliveI ⟨nw, cwp, inv, regs, frames, threads, runs, alive, stacks, choice, flags, pil, fill, en⟩) from ⟨HC.out.1, by rw [HC.out.2.1]; rfl, HC.out.2.2.1, HC.out.2.2.2⟩)
            go_wp2_with fail
            go_loopw [22] (fun i wx => ∃ (k : Nat) (G : MG) (m : Mx), k ≤ regs.length ∧ i = .int .i64 (k : Int) ∧ Hid (WS w wx G M m [.int .i64 nw, .int .i64 cwp, .int .i64 inv, .slice pr regs.length cr, .slice pf frames.length cf, .int .i64 threads, .int .i64 runs, .bool (alive 0), .bool (alive 1), .bool (alive 2), .bool (alive 3), .int .u16 (stacks 0), .int .u16 (stacks 1), .int .u16 (stacks 2), .int .u16 (stacks 3), .int .u32 choice, .int .u8 flags, .int .u8 pil, .int .u32 fill, .bool en]) ∧ Hid (m.kind = 0 ∧ m.f.nw = nw ∧ m.out = [] ∧ SMem m.mem nw en runs threads 4 stacks (aliveI ⟨nw, cwp, inv, regs, frames, threads, runs, alive, stacks, choice, flags, pil, fill, en⟩)) ∧ Hid (m.f = regF nw regs k)) (fun i _ => regs.length - (intOf i).toNat)
            case atStart => exact ⟨0, _, _, Nat.zero_le _, rfl, WQ, HC6, HF6⟩
            case round =>
              clear WQ HC6 HF6 HC
              obtain ⟨k, G, m, hk, rfl, WQ, HC, HFL⟩ := hrel
              have b3 := WQ.out.box.cell (k := 3) rfl
              by_cases hlt : k < regs.length
              · have h1 : (k : Int) < (regs.length : Int) := by omega
                obtain ⟨rb, ro, rfl, hrc⟩ := HX.out.r.cell (by show 0 < regs.length; omega)
                have hk512 : k < 512 := by have : regs.length ≤ 512 := HMY.out.2.2.2.2.2.2.2.2.1; omega
                have c0 := (WQ.out.mis.bel.cell (World.block_lt_of_cell? _ _ (hrc k hlt))).trans (hrc k hlt)
                have b0 := WQ.out.box.cell (k := 0) rfl
                have hxb : 0 ≤ regs.getD k 0 ∧ regs.getD k 0 < 4294967296 := HX.out.r.1.1.at k
                have HMF := mhid (fun (w' : World) (hb : Below wr.heap.size wr w') => mfile_any w' G M m (WQ.out.keep hb).mis.at')
                have HST := mhid (fun (w' : World) (hb : Below wr.heap.size wr w') (a r : Int) => mw_set w w' G M m (WQ.out.keep hb).mis a 0 r (regs.getD k 0) hxb)
                have HTO := mhid (fun (w' w'' : World) (m' : Mx) (hb : Below wr.heap.size wr w') (ht : MTo w w' w'' G M m') => (WQ.out.keep hb).to ht)
                have hkk : ∀ w' : World, Below wr.heap.size wr w' → (w'.cell? ⟨w.heap.size, 0, none⟩ = some (.int .i64 nw) ∧ w'.cell? ⟨w.heap.size, 3, none⟩ = some (.slice (some ⟨rb, ro, none⟩) regs.length cr) ∧ w'.cell? ⟨rb, ro + k, none⟩ = some (.int .u32 (regs.getD k 0))) := fun w' hb => ⟨(hb.cell (World.block_lt_of_cell? _ _ b0)).trans b0, (hb.cell (World.block_lt_of_cell? _ _ b3)).trans b3, (hb.cell (World.block_lt_of_cell? _ _ c0)).trans c0⟩
                have HKK := mhid hkk
                have hnw0 : ((nw : Int) == 0) = false := by rw [beq_eq_false_iff_ne]; omega
                have hnw1 : ¬ (nw : Int) = 0 := by omega
                have hnw2 : decide ((nw : Int) = 0) = false := decide_eq_false hnw1
                have hnw3 : ¬ nw = 0 := by omega
                have hnw4 : decide (nw = 0) = false := decide_eq_false hnw3
                have HB0 := mhid (fun (w' : World) (hb : Below w.heap.size w w') => (hb.cell (World.block_lt_of_cell? _ _ (hrc k hlt))).trans (hrc k hlt))
                clear hrc hkk
                have HRX := mhid (show regF nw regs (k + 1) = setV (regF nw regs k) ((IntKind.i64.wrap ((k : Int) / 16)).tmod nw) 0 (IntKind.i64.wrap (16 + (k : Int).tmod 16)) (regs.getD k 0) from rfl)
                generalize regs.getD k 0 = x at *
                have hbl0 := Below.refl wr.heap.size wr
                have hle0 : wr.heap.size ≤ wr.heap.size := Nat.le_refl _
                go_wp2_with fail
                go_region_held3 (fun w' => w'.cell? ⟨w.heap.size, 0, none⟩ = some (.int .i64 nw) ∧ w'.cell? ⟨w.heap.size, 3, none⟩ = some (.slice (some ⟨rb, ro, none⟩) regs.length cr) ∧ w'.cell? ⟨rb, ro + k, none⟩ = some (.int .u32 x)) (first | (with_reducible exact ⟨b0, b3, c0⟩) | (with_reducible exact hSx) | (refine HKK.out _ ?_; go_grown; done))
                  (first
                    | (go_at_call 12; refine (HMF.out _ (by go_grown)).mono ?_; rintro e wx ⟨rfl, rfl⟩)
                    | (go_at_call 20; refine (HST.out _ (by go_grown) _ _).mono ?_; rintro e w5 ⟨rfl, hto⟩; obtain ⟨G5, hW5⟩ := HTO.out _ _ _ (by go_grown) hto; have hSx := (show w5.cell? ⟨w.heap.size, 0, none⟩ = some (.int .i64 nw) ∧ w5.cell? ⟨w.heap.size, 3, none⟩ = some (.slice (some ⟨rb, ro, none⟩) regs.length cr) ∧ w5.cell? ⟨rb, ro + k, none⟩ = some (.int .u32 x) from ⟨hW5.box.cell (k := 0) rfl, hW5.box.cell (k := 3) rfl, HB0.out w5 hW5.mis.bel⟩)))
                all_goals
                  have HW5 := mhid hW5
                  clear hSx b0 b3 c0 hto hW5
                  go_wp2_with fail
                  refine ⟨⟨_, _, _, _, _, _, _, _, _, _, _, _, _, _, _, _, _, _, _, _, _, _, _, _, ⟨k + 1, G5, _, by omega, by go_num, HW5, mhid ⟨HC.out.1, (setV_nw _ _ _ _ _).trans HC.out.2.1, HC.out.2.2⟩, mhid ((congrArg (fun f => setV f ((IntKind.i64.wrap ((k : Int) / 16)).tmod nw) 0 (IntKind.i64.wrap (16 + (k : Int).tmod 16)) x) HFL.out).trans HRX.out.symm)⟩, rfl⟩, by simp [intOf] <;> omega⟩
              · obtain rfl : k = regs.length := by omega
                have HF0 := mhid (show m.f = spG (regF nw regs regs.length) frames 0 from HFL.out)
                have HC0 := mhid (show m.kind = 0 ∧ m.f.nw = nw ∧ m.out = [] ∧ SMem m.mem nw en runs threads 4 stacks (aliveI ⟨nw, cwp, inv, regs, frames, threads, runs, alive, stacks, choice, flags, pil, fill, en⟩) ∧ FrOk m.f 0 8192 from ⟨HC.out.1, HC.out.2.1, HC.out.2.2.1, HC.out.2.2.2, fun w hw => by omega⟩)
                go_wp2_with fail
                go_loopw [23] (fun i wx => ∃ (k : Nat) (G : MG) (m : Mx), k ≤ nw ∧ i = .int .i64 (k : Int) ∧ Hid (WS w wx G M m [.int .i64 nw, .int .i64 cwp, .int .i64 inv, .slice pr regs.length cr, .slice pf frames.length cf, .int .i64 threads, .int .i64 runs, .bool (alive 0), .bool (alive 1), .bool (alive 2), .bool (alive 3), .int .u16 (stacks 0), .int .u16 (stacks 1), .int .u16 (stacks 2), .int .u16 (stacks 3), .int .u32 choice, .int .u8 flags, .int .u8 pil, .int .u32 fill, .bool en]) ∧ Hid (m.kind = 0 ∧ m.f.nw = nw ∧ m.out = [] ∧ SMem m.mem nw en runs threads 4 stacks (aliveI ⟨nw, cwp, inv, regs, frames, threads, runs, alive, stacks, choice, flags, pil, fill, en⟩) ∧ FrOk m.f k 8192) ∧ Hid (m.f = spG (regF nw regs regs.length) frames k)) (fun i _ => nw - (intOf i).toNat)
                case atStart => exact ⟨0, _, _, Nat.zero_le _, rfl, WQ, HC0, HF0⟩
                case round =>
                  clear WQ HC b3 HFL HF0 HC0
                  obtain ⟨k, G, m, hk, rfl, WQ, HC, HFL⟩ := hrel
                  have b0 := WQ.out.box.cell (k := 0) rfl
                  have b4 := WQ.out.box.cell (k := 4) rfl
                  by_cases hlt : k < nw
                  · have h1 : (k : Int) < (nw : Int) := by omega
                    have g1 : IntKind.i64.wrap ((k : Int) * 16) = (k : Int) * 16 := IntWalk.i64_in _ (by omega)
                    have g2 : IntKind.u16.wrap ((k : Int) * 16) = (k : Int) * 16 := IntWalk.u16_in _ (by omega)
                    obtain ⟨wr0, hwr0⟩ : ∃ x, x = wr := ⟨_, rfl⟩
                    go_upto_if 211 with (fail)
                    go_cut [24] from 198 to 222 (fun fv w' => w' = wr0 ∧ ∃ y : Int, fv = .int .u16 y ∧ 0 ≤ y ∧ y < 65536 ∧ y = frmZ frames k)
                    case first =>
                      by_cases hf : k < frames.length
                      · have hfi : (k : Int) < (frames.length : Int) := by omega
                        obtain ⟨-, hfb, p9, c9, fb, fo, e9, hf9, hfc⟩ := HX.out.f
                        cases e9
                        obtain rfl := hf9 (by show 0 < frames.length; omega)
                        obtain ⟨y, hy⟩ : ∃ y, frames[k]? = some y := ⟨_, List.getElem?_eq_getElem hf⟩
                        have hyb := hfb y (List.mem_of_getElem? hy)
                        have c0 := (WQ.out.mis.bel.cell (World.block_lt_of_cell? _ _ (hfc k y hy))).trans (hfc k y hy)
                        go_wp2_with fail
                        go_meet
                        exact ⟨hwr0.symm, y, rfl, hyb.1, hyb.2, by unfold frmZ; rw [if_pos hf, List.getD_eq_getElem?_getD, hy]; rfl⟩
                      · have hfi : ¬ (k : Int) < (frames.length : Int) := by omega
                        go_wp2_with fail
                        go_meet
                        exact ⟨hwr0.symm, _, rfl, by omega, by omega, by unfold frmZ; rw [if_neg hf]⟩
                    case rest =>
                      obtain ⟨rfl, y, rfl, hy0, hy1, hyf⟩ := hcut
                      obtain rfl := hwr0
                      obtain ⟨A, hA⟩ : ∃ A : Nat, frmX y = (A : Int) := ⟨(frmX y).toNat, by unfold frmX; omega⟩
                      have hA2 : 2048 ≤ A ∧ A % 4 = 0 ∧ A + 64 ≤ 8192 := by unfold frmX at hA; omega
                      have HYA := mhid (show (A : Int) = 2048 + frmZ frames k % 1520 * 4 from by rw [← hyf, ← hA]; rfl)
                      have HFX := mhid (fun (w' : World) => sframe_any y ⟨hy0, hy1⟩ w')
                      rw [hA] at HFX
                      clear hA b4 hyf
                      go_wp2_with fail
                      refine (mfile_any _ G M m WQ.out.mis.at').mono ?_
                      rintro e w' ⟨rfl, rfl⟩
                      go_wp2_with fail
                      refine (HFX.out _).mono ?_
                      rintro e w' ⟨rfl, rfl⟩
                      go_wp2_with fail
                      refine (mw_set w _ G M m WQ.out.mis (k : Int) 0 14 (A : Int) ⟨by omega, by omega⟩).mono ?_
                      rintro e w5 ⟨rfl, hto⟩
                      obtain ⟨G5, hW5⟩ := WQ.out.to hto
                      have hok := WQ.out.mis.at'.ok.f
                      have HW5 := mhid hW5
                      have HC5 := mhid (show ({ m with f := setV m.f k 0 14 A } : Mx).kind = 0 ∧ ({ m with f := setV m.f k 0 14 A } : Mx).f.nw = nw ∧ ({ m with f := setV m.f k 0 14 A } : Mx).out = [] ∧ SMem ({ m with f := setV m.f k 0 14 A } : Mx).mem nw en runs threads 4 stacks (aliveI ⟨nw, cwp, inv, regs, frames, threads, runs, alive, stacks, choice, flags, pil, fill, en⟩) ∧ FrOk ({ m with f := setV m.f k 0 14 A } : Mx).f (k + 1) 8192 from
                        ⟨HC.out.1, (setV_nw _ _ _ _ _).trans HC.out.2.1, HC.out.2.2.1, HC.out.2.2.2.1, HC.out.2.2.2.2.set hok (by rw [HC.out.2.1]; exact hlt) hA2.1 hA2.2.1 hA2.2.2⟩)
                      have HF5 := mhid (show ({ m with f := setV m.f k 0 14 A } : Mx).f = spG (regF nw regs regs.length) frames (k + 1) from by
                        show setV m.f k 0 14 A = setV (spG (regF nw regs regs.length) frames k) k 0 14 _
                        rw [← HFL.out, ← HYA.out])
                      clear hto hW5 b0
                      generalize ({ m with f := setV m.f k 0 14 A } : Mx) = m5 at *
                      go_wp2_with fail
                      refine ⟨⟨_, _, _, _, _, _, _, _, _, _, _, _, _, _, _, _, _, _, _, _, _, _, _, _, _, _, _, ⟨k + 1, G5, m5, by omega, by go_num, HW5, HC5, HF5⟩, rfl⟩, by simp [intOf] <;> omega⟩
                  · have hkn : k = nw := by omega
                    have hnl : ¬ (k : Int) < (nw : Int) := by omega
                    rw [hkn] at HC HFL
                    clear b4
                    have b15 := WQ.out.box.cell (k := 15) rfl
                    have hchb : 0 ≤ choice ∧ choice < 4294967296 := HX.out.ch
                    obtain ⟨V, hV⟩ : ∃ V, V = wr.alloc (.cells #[.int .u32 choice] 24) := ⟨_, rfl⟩
                    have hbV : Below wr.heap.size wr V := by rw [hV]; exact (Below.refl _ _).alloc (Nat.le_refl _) _
                    have hrV : ARow V wr.heap.size 24 [.int .u32 choice] := by rw [hV]; exact ARow.fresh wr _ _
                    have HRV := mhid hrV
                    have WQV := mhid (WQ.out.keep hbV)
                    have HV := mhid hV
                    have HCHB := mhid hchb
                    clear hV hbV hrV hchb hkn
                    go_wp2_with fail
                    rw [← HV.out]
                    refine (mw_choose w V G M m WQV.out.mis (.slice (some ⟨wr.heap.size, 0, none⟩) 1 1) [choice] ⟨by show 1 ≤ maxLen; unfold maxLen; omega, some ⟨wr.heap.size, 0, none⟩, 1, rfl, fun _ => ⟨wr.heap.size, 0, rfl, fun j hj => by
                        have hj1 : j < 1 := hj
                        obtain rfl : j = 0 := by omega
                        exact HRV.out.cell (k := 0) rfl⟩⟩ (by simp) (fun y hy => by rw [List.mem_singleton.1 hy]; exact HCHB.out) (fun c n e => by cases e)).mono ?_
                    rintro e w5 ⟨rfl, hto⟩
                    obtain ⟨G5, hW5⟩ := WQV.out.to hto
                    have WQ5 := mhid hW5
                    clear hto hW5 WQ WQV HRV HV b15 b0
                    go_wp2_with fail
                    refine (mw_setpc w w5 G5 M _ WQ5.out.mis 1536 (by decide)).mono ?_
                    rintro e w6 ⟨rfl, hto⟩
                    obtain ⟨G6, hW6⟩ := WQ5.out.to hto
                    have WQ6 := mhid hW6
                    obtain ⟨cw, rfl⟩ := Int.eq_ofNat_of_zero_le (show 0 ≤ cwp from HMY.out.2.1.1)
                    obtain ⟨iv, rfl⟩ := Int.eq_ofNat_of_zero_le (show 0 ≤ inv from HMY.out.2.2.1.1)
                    have hcw : cw < nw := by have : (cw : Int) < (nw : Int) := HMY.out.2.1.2; omega
                    have hiv : iv < nw := by have : (iv : Int) < (nw : Int) := HMY.out.2.2.1.2; omega
                    have hpil : 0 ≤ pil ∧ pil ≤ 15 := ⟨HX.out.pil.1, HMY.out.2.2.2.2.2.2.1⟩
                    have hfl : 0 ≤ flags ∧ flags ≤ 15 := ⟨HX.out.fl.1, HMY.out.2.2.2.2.2.2.2.1⟩
                    have b1 := WQ6.out.box.cell (k := 1) rfl
                    have b16 := WQ6.out.box.cell (k := 16) rfl
                    have b17 := WQ6.out.box.cell (k := 17) rfl
                    have hu8 : IntKind.u8.wrap (cw : Int) = (cw : Int) := IntWalk.u8_in _ (by omega)
                    clear hto hW6 WQ5
                    have hqb : (⟨cw, pil, 0, flags⟩ : Px).bd := by unfold Px.bd; simp only; omega
                    have HPS := mhid (mw_setpsr w w6 G6 M _ WQ6.out.mis ⟨cw, pil, 0, flags⟩ hqb)
                    have hpm : pmayP ⟨cw, pil, 0, flags⟩ (nw : Int) := by unfold pmayP; simp only; omega
                    have hwp : winP (nw : Int) := ⟨by omega, by omega⟩
                    have HPM := mhid (And.intro hpm hwp)
                    clear hqb hpm hwp
                    go_wp2_with fail
                    refine HPS.out.mono ?_
                    rintro e w7 ⟨rfl, hto⟩
                    have hnwm : m.nw = (nw : Int) := by unfold Mx.nw; rw [HC.out.2.1]
                    have hpk : packE ⟨cw, pil, 0, flags⟩ ({ m with ch := [choice], pc := 1536 } : Mx).nw = 0 := by
                      show packE _ m.nw = 0
                      rw [hnwm]; exact if_pos ⟨HPM.out.2, HPM.out.1⟩
                    obtain ⟨G7, hW7⟩ := WQ6.out.to hto
                    have hsp : spsrM { m with ch := [choice], pc := 1536 } ⟨cw, pil, 0, flags⟩ = { m with ch := [choice], pc := 1536, p := ⟨cw, pil, 0, flags⟩ } := if_pos hpk
                    rw [hsp] at hW7
                    have WQ7 := mhid hW7
                    have b2 := WQ7.out.box.cell (k := 2) rfl
                    have iv32 : iv < 32 := by omega
                    have hpw : (2 : Int) ^ iv % 4294967296 = 2 ^ iv := Int.emod_eq_of_lt (Int.pow_nonneg (by decide)) (wim_lt' iv iv32)
                    have g3 : IntKind.u64.wrap (iv : Int) = (iv : Int) := IntWalk.u64_in _ (by omega)
                    clear hto hW7 hsp hpk WQ6 b1 b16 b17 HPS
                    go_wp2_with fail
                    refine (mw_setwim w _ G7 M _ WQ7.out.mis HBR.out (2 ^ iv) ⟨Int.pow_nonneg (by decide), wim_lt' iv iv32⟩).mono ?_
                    rintro e w8 ⟨rfl, hto8⟩
                    obtain ⟨G8, hW8⟩ := WQ7.out.to hto8
                    have hwe : swimM { m with ch := [choice], pc := 1536, p := ⟨cw, pil, 0, flags⟩ } (2 ^ iv) = { m with ch := [choice], pc := 1536, p := ⟨cw, pil, 0, flags⟩, wim := 2 ^ iv } := by
                      unfold swimM
                      refine if_pos ?_
                      show invE _ m.nw = 0
                      rw [hnwm]
                      exact inv_pow h2.1 h2.2 hiv
                    rw [hwe] at hW8
                    have hmn : m.f.nw = nw := HC.out.2.1
                    have WQ8 := mhid hW8
                    have HFIN := mhid (show MadeS ⟨nw, cw, iv, regs, frames, threads, runs, alive, stacks, choice, flags, pil, fill, en⟩ { m with ch := [choice], pc := 1536, p := ⟨cw, pil, 0, flags⟩, wim := 2 ^ iv } from
                      { kind := HC.out.1, nw := by show ((m.f.nw : Nat) : Int) = (nw : Int); rw [hmn], pc := rfl, p := rfl, wim := by show (2 : Int) ^ iv = 2 ^ (Int.toNat (iv : Int)); rw [Int.toNat_natCast], out := HC.out.2.2.1,
                        mem := by show SMem m.mem m.f.nw _ _ _ _ _ _; rw [hmn]; exact HC.out.2.2.2.1, sp := by show FrOk m.f m.f.nw 8192; rw [hmn]; exact HC.out.2.2.2.2,
                        file := by show m.f = fileS _; rw [HFL.out]; rfl, ch := rfl })
                    clear hto8 hW8 hwe hmn b2
                    go_wp2_with fail
                    first
                      | go_ret2
                      | go_ret
                    exact ⟨M, G8, _, rfl, WQ8.out.mis, HFIN.out⟩
end Go.Proofs.YtajholbcpmjhiaaGreatDoor
