/- The walk of muntinref14.missing. -/
import Derived.Test.YthahjnjkiljaaaaShapeLacks
namespace Go.Proofs.Ythahjnjkiljaaaa
open Go.RowKit Go.Deep
set_option linter.unusedVariables false
set_option linter.unusedSimpArgs false
/-- The rows of what each register lacks, in a slice. -/
def LacksIn (w : World) (pl : Option Addr) (bs : List Blk) (A R : Nat) : Prop :=
  ∃ gl, (0 < R → pl = some ⟨gl, 0, none⟩) ∧ ∀ r, r < R → ∃ v g, w.cell? ⟨gl, r, none⟩ = some v ∧ SetAt w g v (lacksL bs A r)
theorem LacksIn.below {w w' : World} {pl : Option Addr} {bs : List Blk} {A R : Nat} (h : LacksIn w pl bs A R) (hb : Below w.heap.size w w') : LacksIn w' pl bs A R := by
  obtain ⟨gl, h1, h2⟩ := h
  refine ⟨gl, h1, fun r hr => ?_⟩
  obtain ⟨v, g, h3, h4⟩ := h2 r hr
  exact ⟨v, g, (hb.cell (World.block_lt_of_cell? _ _ h3)).trans h3, h4.below hb⟩
def missAt (f : Int → Bool) (l : List Insx) (j : Nat) : Bool :=
  match l[j]? with
  | some x => (readsS x).any fun r => f r && !wrB l r j
  | none => false
def lackF (bs : List Blk) (A : Int) (n : Nat) (r : Int) : Bool := (lacksL bs A r.toNat)[n]?.getD false
def missB (bs : List Blk) (A : Int) (n : Nat) : Bool := (List.range (insAt bs n).length).any (missAt (lackF bs A n) (insAt bs n))
theorem range_any_no' {k : Nat} {f : Nat → Bool} (h : (List.range k).any f = false) (hk : f k = false) : (List.range (k + 1)).any f = false := by
  rw [List.range_succ, List.any_append, h]; simp [hk]
set_option maxRecDepth 100000 in
set_option maxHeartbeats 8000000 in
theorem missing_any (nm : ByteArray) (A R : Nat) (hR : R ≤ 4096) (bs : List Blk) (hbk : BlksOk R bs) (pb : Option Addr) (cb : Nat) (pl : Option Addr) (cl : Nat) (n : Nat) (x : Blk) (hx : bs[n]? = some x) (w : World) (hB : BlksIn w (.slice pb bs.length cb) bs) (hL : LacksIn w pl bs A R) :
    Calls Try.prog 25 #[.agg #[.string nm, .int .i64 A, .int .i64 R, .slice pb bs.length cb], .slice pl R cl, .int .i64 n] w fun e w' => e = .returned (.bool (missB bs A n)) ∧ Below w.heap.size w w' := by
  have hn : n < bs.length := (List.getElem?_eq_some_iff.1 hx).1
  have hbl := hB.1
  have HX := shid hx
  have HBK := shid hbk
  have HLI := shid hL
  obtain ⟨_, _, b, o, hbe, _, HBS⟩ := hB.hids
  cases hbe
  obtain rfl := HBS.out.1 hbk.some
  have HW0 := shid (al1 w (.cells #[.string nm, .int .i64 A, .int .i64 R, .slice (some ⟨b, o, none⟩) bs.length cb] 37))
  obtain ⟨c0, ⟨iv, c1, hiv⟩, hnm⟩ := (HBS.out.2 n x hx).keep HW0.out
  have HIV := shid hiv
  have HIB := shid hiv.bds
  have HAL := shid hiv.argLen
  obtain ⟨pi, ci, ib, io, rfl, hil, HIS⟩ := hiv.hids
  have HFB := shid (FBox.new w nm A R (.slice (some ⟨b, o, none⟩) bs.length cb) 37)
  have HB8 := shid (BBox.new (w.alloc (.cells #[.string nm, .int .i64 A, .int .i64 R, .slice (some ⟨b, o, none⟩) bs.length cb] 37)) x.name (.slice pi x.ins.length ci) 40)
  have HW8 := shid (al1 (w.alloc (.cells #[.string nm, .int .i64 A, .int .i64 R, .slice (some ⟨b, o, none⟩) bs.length cb] 37)) (.cells #[.string x.name, .slice pi x.ins.length ci] 40))
  have HWW := shid (sbt HW0.out HW8.out)
  have HKI := shid (fun (W : World) (hb : Below ((w.alloc (.cells #[.string nm, .int .i64 A, .int .i64 R, .slice (some ⟨b, o, none⟩) bs.length cb] 37)).alloc (.cells #[.string x.name, .slice pi x.ins.length ci] 40)).heap.size ((w.alloc (.cells #[.string nm, .int .i64 A, .int .i64 R, .slice (some ⟨b, o, none⟩) bs.length cb] 37)).alloc (.cells #[.string x.name, .slice pi x.ins.length ci] 40)) W) => InsxIn.keep HIV.out (sbt HW8.out hb))
  have HIA := shid (show insAt bs n = x.ins by unfold insAt; rw [hx]; rfl)
  have HNO := shid (show NamesOk R x.ins by rw [← HIA.out]; exact hbk.names n)
  have HMB := shid (show missB bs A n = (List.range x.ins.length).any (missAt (lackF bs A n) x.ins) by unfold missB; rw [HIA.out])
  have HLF := shid (show ∀ r : Nat, lackF bs A n r = (lacksL bs A r)[n]?.getD false from fun r => rfl)
  have hnI : (n : Int) < bs.length := by omega
  simp only [World.size_alloc] at HB8
  clear hx hB hL hiv hnm hbk HIS HIV HBS
  go_enter Try.func25, Try.ntmps25
  obtain ⟨_, p0, p1, p2, p3⟩ := HFB.out
  go_wp2_with fail
  clear p0 p1 p2 p3 c0 c1 HFB
  generalize (w.alloc (.cells #[.string nm, .int .i64 A, .int .i64 R, .slice (some ⟨b, o, none⟩) bs.length cb] 37)).alloc (.cells #[.string x.name, .slice pi x.ins.length ci] 40) = W0 at *
  generalize hlf : lackF bs A n = lf at *
  go_loopw [8] (fun i wr => ∃ k : Nat, k ≤ x.ins.length ∧ i = .int .i64 k ∧ (List.range k).any (missAt lf x.ins) = false ∧ Below W0.heap.size W0 wr) (fun i _ => x.ins.length - (intOf i).toNat)
  case atStart => exact ⟨0, Nat.zero_le _, rfl, rfl, Below.refl _ _⟩
  case round =>
    obtain ⟨k, hk, rfl, hf, hbw⟩ := hrel
    have HF := shid hf
    have HBW := shid hbw
    have HLFE := shid hlf
    clear hf hbw hlf
    obtain ⟨_, b0, b1⟩ := HB8.out.keep HBW.out
    by_cases hlt : k < x.ins.length
    · have h1 : (k : Int) < x.ins.length := by omega
      have HY := shid (List.getElem?_eq_getElem hlt)
      have HYM := shid (List.getElem_mem hlt)
      generalize x.ins[k] = y at HY HYM
      have hiv := HKI.out _ HBW.out
      obtain ⟨_, _, ib2, io2, hie, _, HIS2⟩ := hiv.hids
      cases hie
      obtain rfl := HIS2.out.1 (by omega)
      obtain ⟨d0, d1, d2, d3, d4, d5, ⟨va, d6, hva⟩, d7, d8, hybd⟩ := HIS2.out.2 k y HY.out
      have HYB := shid hybd
      obtain ⟨pa, ca2, rfl⟩ := hva.shape
      have HVA := shid hva
      have HNY := shid (HNO.out y HYM.out).1
      clear hiv hva hybd
      go_wp2_with fail
      clear d0 d1 d2 d3 d4 d5 d6 d7 d8 b0 b1
      refine (rreads_any y HYB.out pa y.args.length ca2 wr HVA.out).mono ?_
      rintro e W3 ⟨v3, rfl, ho3, hb3⟩
      have HB3 := shid hb3
      obtain ⟨p3, c3, rfl, hs3⟩ := own_shape ho3
      obtain ⟨g3, hp3, hc3⟩ := own_cells ho3 rfl
      have HP3 := shid hp3
      have HC3 := shid hc3
      have HBW3 := shid (sbt HBW.out hb3)
      have hlr := readsS_len (show y.args.length * 8 ≤ 140737488352000 from HAL.out y HYM.out)
      have HMA := shid (show missAt lf x.ins k = (readsS y).any fun r => lf r && !wrB x.ins r k by unfold missAt; rw [HY.out])
      clear ho3 hb3 hs3 hp3 hc3
      go_wp2_with fail
      go_loopw [10] (fun i wr => ∃ q : Nat, q ≤ (readsS y).length ∧ i = .int .i64 q ∧ ((readsS y).take q).any (fun r => lf r && !wrB x.ins r k) = false ∧ Below W3.heap.size W3 wr) (fun i _ => (readsS y).length - (intOf i).toNat)
      case atStart => exact ⟨0, Nat.zero_le _, rfl, by simp, Below.refl _ _⟩
      case round =>
        obtain ⟨q, hq, rfl, hfq, hb4⟩ := hrel
        have HFQ := shid hfq
        have HB4 := shid hb4
        have HBW4 := shid (sbt HBW3.out hb4)
        clear hfq hb4
        by_cases hltq : q < (readsS y).length
        · obtain rfl := HP3.out (by omega)
          have HZ := shid (List.getElem?_eq_getElem hltq)
          have HZM := shid (HNY.out _ (List.getElem_mem hltq))
          have HZI := shid (List.getElem_mem hltq)
          generalize (readsS y)[q] = z at HZ HZM HZI
          have e3 := (HB4.out.cell (p := ⟨g3, q, none⟩) (World.block_lt_of_cell? _ _ (HC3.out q z HZ.out))).trans (HC3.out q z HZ.out)
          obtain ⟨zn, rfl⟩ := Int.eq_ofNat_of_zero_le HZM.out.1
          have hz1 : (zn : Int) < R := HZM.out.2
          obtain ⟨gl, hgl1, hgl2⟩ := HLI.out.below (sbt HWW.out HBW4.out)
          obtain rfl := hgl1 (by omega)
          obtain ⟨vz, gz, ez, ⟨cz, rfl⟩, hrz⟩ := hgl2 zn (by omega)
          have HLN := shid (lacksL_length bs A zn)
          obtain ⟨lk, hlk⟩ : ∃ y, (lacksL bs A zn)[n]? = some y := ⟨_, List.getElem?_eq_getElem (by rw [lacksL_length]; exact hn)⟩
          have en := hrz.cell (bools_get hlk)
          have HLK := shid (show lf zn = lk by rw [HLF.out, hlk]; rfl)
          rw [HLN.out] at ez
          have h2 : (q : Int) < (readsS y).length := by omega
          obtain ⟨_, b0, b1⟩ := HB8.out.keep HBW4.out
          have HWR := shid (fun (W : World) (hb : Below wr.heap.size wr W) => wr_any x.name x.ins (some ⟨ib2, io2, none⟩) ci zn k (by omega) W (HKI.out _ (sbt HBW4.out hb)))
          have HTK := shid (stake_get HZ.out)
          clear hgl1 hgl2 hrz hlk HLN
          cases lk with
          | false =>
            have HN := shid (show ((readsS y).take (q + 1)).any (fun r => lf r && !wrB x.ins r k) = false by
              rw [HTK.out, List.any_append, HFQ.out]; simp [HLK.out])
            clear HWR
            go_wp2_with fail
            go_quiet (fail)
            go_wp2_with fail
            go_roundw
            case rel => exact ⟨q + 1, by omega, by go_num, HN.out, sdrewN HB4.out _⟩
            case measure => simp [intOf]; omega
          | true =>
            generalize hwb : wrB x.ins zn k = wb at *
            have HWQ := shid hwb
            clear hwb
            have HKS : Hid (∀ w', Below wr.heap.size wr w' → w'.cell? ⟨w.heap.size + 1, 0, none⟩ = some (.string x.name) ∧ w'.cell? ⟨w.heap.size + 1, 1, none⟩ = some (.slice (some ⟨ib2, io2, none⟩) x.ins.length ci) ∧ w'.cell? ⟨g3, q, none⟩ = some (.int .i64 zn) ∧ w'.cell? ⟨gl, zn, none⟩ = some (.slice (some ⟨gz, 0, none⟩) bs.length cz) ∧ w'.cell? ⟨gz, n, none⟩ = some (.bool true)) := shid fun w' hb => by
              exact ⟨(hb.cell (World.block_lt_of_cell? _ _ b0)).trans b0, (hb.cell (World.block_lt_of_cell? _ _ b1)).trans b1, (hb.cell (World.block_lt_of_cell? _ _ e3)).trans e3, (hb.cell (World.block_lt_of_cell? _ _ ez)).trans ez, (hb.cell (World.block_lt_of_cell? _ _ en)).trans en⟩
            have hle : wr.heap.size ≤ wr.heap.size := Nat.le_refl _
            have hbd : Below wr.heap.size wr wr.drew := (Below.refl _ _).drew
            clear b0 b1 e3 ez en
            cases wb with
            | true =>
              have HN := shid (show ((readsS y).take (q + 1)).any (fun r => lf r && !wrB x.ins r k) = false by
                rw [HTK.out, List.any_append, HFQ.out]; simp [HLK.out, HWQ.out])
              go_wp2_with fail
              go_region_held3 (fun w' => w'.cell? ⟨w.heap.size + 1, 0, none⟩ = some (.string x.name) ∧ w'.cell? ⟨w.heap.size + 1, 1, none⟩ = some (.slice (some ⟨ib2, io2, none⟩) x.ins.length ci) ∧ w'.cell? ⟨g3, q, none⟩ = some (.int .i64 zn) ∧ w'.cell? ⟨gl, zn, none⟩ = some (.slice (some ⟨gz, 0, none⟩) bs.length cz) ∧ w'.cell? ⟨gz, n, none⟩ = some (.bool true)) (first | (with_reducible exact HKS.out _ hbd) | (with_reducible exact HKS.out _ hb5))
                (first
                  | (go_at_call 46; (with_reducible refine (HWR.out _ hbd).mono ?_); rintro e w5 ⟨rfl, hb50⟩; have hb5 : Below wr.heap.size wr w5 := sbt hbd hb50))
              go_wp2_with fail
              go_roundw
              case rel => exact ⟨q + 1, by omega, by go_num, HN.out, sbt HB4.out hb5⟩
              case measure => simp [intOf]; omega
            | false =>
              have HR1 := shid (show missB bs A n = true by
                rw [HMB.out, List.any_eq_true]
                refine ⟨k, List.mem_range.2 hlt, ?_⟩
                rw [HMA.out, List.any_eq_true]
                exact ⟨zn, HZI.out, by rw [HLK.out, HWQ.out]; rfl⟩)
              go_wp2_with fail
              go_region_held3 (fun w' => w'.cell? ⟨w.heap.size + 1, 0, none⟩ = some (.string x.name) ∧ w'.cell? ⟨w.heap.size + 1, 1, none⟩ = some (.slice (some ⟨ib2, io2, none⟩) x.ins.length ci) ∧ w'.cell? ⟨g3, q, none⟩ = some (.int .i64 zn) ∧ w'.cell? ⟨gl, zn, none⟩ = some (.slice (some ⟨gz, 0, none⟩) bs.length cz) ∧ w'.cell? ⟨gz, n, none⟩ = some (.bool true)) (first | (with_reducible exact HKS.out _ hbd) | (with_reducible exact HKS.out _ hb5))
                (first
                  | (go_at_call 46; (with_reducible refine (HWR.out _ hbd).mono ?_); rintro e w5 ⟨rfl, hb50⟩; have hb5 : Below wr.heap.size wr w5 := sbt hbd hb50))
              go_wp2_with fail
              go_ret
              exact ⟨sret_val (by rw [HR1.out]; rfl), sbt HWW.out (sbt HBW4.out hb5)⟩
        · have HN := shid (show (List.range (k + 1)).any (missAt lf x.ins) = false from range_any_no' HF.out (by
            rw [HMA.out]
            have h := HFQ.out
            rw [List.take_of_length_le (by omega)] at h
            exact h))
          go_wp2_with fail
          go_roundw
          case rel => exact ⟨k + 1, by omega, by go_num, HN.out, HBW4.out⟩
          case measure => simp [intOf]; omega
    · obtain rfl : k = x.ins.length := by omega
      have HR1 := shid (show missB bs A n = false by rw [HMB.out]; exact HF.out)
      go_wp2_with fail
      go_ret
      exact ⟨sret_val (by rw [HR1.out]; rfl), sbt HWW.out HBW.out⟩
end Go.Proofs.Ythahjnjkiljaaaa
