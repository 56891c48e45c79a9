/- The walk of muntinlaw07.AsmPlays: lists, whatever is done. -/
import Derived.Test.YtimhpohlaagbpaaDoorAsmPlaysLaw
import Derived.Test.YtimhpohlaagbpaaDoorAsmHead
namespace Go.Proofs.YtimhpohlaagbpaaDoor
open Go.RowKit Go.Maps
set_option linter.unusedVariables false
set_option linter.unusedSimpArgs false
theorem SameNames.refl (M : List (List UInt8 × Int)) : SameNames M M := fun _ => rfl
/-- What does tells, on a list and the document's that are the same. -/
def DoesSame (W : World) (B p : Nat) (sv : Value) (m : Nat) (K : Nat → Prop) (x : Actx) (L : List It) (M : List (List UInt8 × Int)) (lv mv : Value) (e : Ending) (w' : World) : Prop :=
  ∃ pl nl cl pm nn cm, e = .returned (.tuple #[.agg #[.slice pl nl cl, .slice pm nn cm], .bool true]) ∧ DoesOk W p sv m K x L M lv mv L M (.returned (.tuple #[.agg #[.slice pl nl cl, .slice pm nn cm], .bool true])) w' ∧ Below B W w' ∧ Only (Own p sv m) W w'
theorem DoesSame.of {W w' : World} {B p m : Nat} {sv lv mv : Value} {K : Nat → Prop} {x : Actx} {L : List It} {M : List (List UInt8 × Int)} {e : Ending} (h : DoesOk W p sv m K x L M lv mv L M e w') (hB : B ≤ W.heap.size) (hO : ∀ k, Own p sv m k → B ≤ k) : DoesSame W B p sv m K x L M lv mv e w' := by
  obtain ⟨lv', mv', b, v', K', rfl, hb, h1, h2, h3, h4, h5, h6, h7, h8, h9⟩ := h
  obtain rfl := hb (SameNames.refl M)
  obtain ⟨pl, nl, cl, rfl⟩ := h5.shape
  obtain ⟨pm, nn, cm, rfl⟩ := h6.shape
  exact ⟨pl, nl, cl, pm, nn, cm, rfl, ⟨_, _, _, v', K', rfl, hb, h1, h2, h3, h4, h5, h6, h7, h8, h9⟩, h2.below hB (fun k hk ho => by have := hO k ho; omega), h2⟩
set_option maxRecDepth 100000 in
set_option maxHeartbeats 4000000 in
theorem walk_AsmPlays (v : Value) (l : List Actx) (w : World) (ht : Tab w) (h : ActsIn w v l) :
    Calls Tryd.prog 4 #[v] w fun e w' => e = .returned (.bool true) ∧ Below w.heap.size w w' := by
  have hgr := great_any w v l h
  by_cases hG : greatB l = true
  · rw [hG] at hgr
    have HT := ahid ht
    have HG := ahid hgr
    clear hgr hG ht h
    go_enter Tryd.func4, Tryd.ntmps4
    go_wp2_with fail
    refine HG.out.mono ?_
    rintro e w1 ⟨rfl, hb⟩
    have HB := ahid hb
    clear hb
    go_wp2_with fail
    refine (ahead_any7 w1 (HT.out.keep HB.out)).mono ?_
    rintro e w2 ⟨rfl, hb⟩
    have HB2 := ahid hb
    clear hb
    go_wp2_with fail
    go_ret
    exact ⟨rfl, abt HB.out HB2.out⟩
  · have hGf : greatB l = false := by simpa using hG
    rw [hGf] at hgr
    have hbn : l.length ≤ 60 ∧ greatN l ≤ 1000 := by unfold greatB at hGf; simp only [decide_eq_false_iff_not, not_or, Nat.not_lt] at hGf; exact hGf
    obtain ⟨hl0, hl1, pv, cv, b, o, rfl, hpv, hact⟩ := h
    have HT := ahid ht
    have HG := ahid hgr
    have HL := ahid (fun x (hx : x ∈ l) => (by have := greatN_mem l x hx; have := hbn.2; omega : x.l.length ≤ 1000 ∧ x.nm.size ≤ 1000))
    have HA := ahid hact
    have HP := ahid hpv
    have hn60 := hbn.1
    clear hgr hG hGf ht hpv hact hl1 hl0 hbn
    go_enter Tryd.func4, Tryd.ntmps4
    go_wp2_with fail
    refine HG.out.mono ?_
    rintro e w1 ⟨rfl, hb⟩
    have HB1 := ahid hb
    clear hb
    go_wp2_with fail
    refine (anew_any w1).mono ?_
    rintro e w2 ⟨p, m, rfl, hp, hm, hA, hb⟩
    have HB2 := ahid (abt HB1.out hb)
    have hlt := hA.ownlt
    have HZ : Hid (PairAt (w2.alloc (.cells #[.slice none 0 0, .slice none 0 0] 33)) w2.heap.size p [] []) := ahid ⟨⟨_, m, _, _, _, hA.keep (Only.of_below (S := fun _ => False) ((Below.refl _ _).alloc (Nat.le_refl _) _)) (fun _ _ h => h) (fun _ _ h => h), Box2.new w2 _ _ _, RowC.nil _ _, RowC.nil _ _, fun k hk e => by have := hlt k hk; omega, fun k hk => hk.elim, (fun k hk => by simp [Value.ownBlock] at hk), (fun k hk => by simp [Value.ownBlock] at hk)⟩⟩
    have HBQ := ahid (show Below w.heap.size w (w2.alloc (.cells #[.slice none 0 0, .slice none 0 0] 33)) ∧ w.heap.size ≤ w2.heap.size ∧ w2.heap.size < (w2.alloc (.cells #[.slice none 0 0, .slice none 0 0] 33)).heap.size from ⟨HB2.out.alloc HB2.out.size _, HB2.out.size, by simp⟩)
    clear hb hp hm hA hlt
    go_wp2_with fail
    generalize w2.alloc (.cells #[.slice none 0 0, .slice none 0 0] 33) = W0 at *
    generalize w2.heap.size = Q at *
    go_loopw [3, 5] (fun v3 i wr => ∃ (k p : Nat) (L : List It) (M : List (List UInt8 × Int)), k ≤ l.length ∧ i = .int .i64 k ∧ v3 = .pointer (some ⟨p, 0, none⟩) ∧ PairAt wr Q p L M ∧ SizedK L M k ∧ Below w.heap.size w wr) (fun _ i _ => l.length - (intOf i).toNat)
    case atStart => exact ⟨0, p, [], [], Nat.zero_le _, rfl, rfl, HZ.out, SizedK.nil, HBQ.out.1⟩
    case round =>
      obtain ⟨k, p, L, M, hk, rfl, rfl, ⟨sv, m, K, lv, mv, hA, hQ, hi, hmk, hoq, hkq, hlq, hmq⟩, hsz, hbw⟩ := hrel
      by_cases hlk : k < l.length
      · obtain ⟨x, hx⟩ : ∃ x, l[k]? = some x := ⟨_, List.getElem?_eq_getElem hlk⟩
        obtain rfl := HP.out (by omega)
        obtain ⟨xv, hat⟩ := HA.out k x hx
        have hat2 := hat.keep hbw
        have hxb := HL.out x (List.mem_of_getElem? hx)
        have hxbd : x.bd := ⟨hat.b0, hat.b1, hat.b2, hat.nm, hxb.1⟩
        have hxlt := hat.ins.lt
        obtain ⟨px, nx, cx, rfl⟩ : ∃ p n c, xv = .slice p n c := by obtain ⟨_, p, c, _, _, h, _⟩ := hat.ins; exact ⟨_, _, _, h⟩
        obtain ⟨pl, nl, cl, rfl⟩ := hi.shape
        obtain ⟨pm, nn, cm, rfl⟩ := hmk.shape
        have hLlen := hsz.len
        have hMlen := hsz.mlen
        have hQlt := hQ.lt
        have hkl : (k : Int) < l.length := by omega
        have C := ahid (acopy_any wr p m sv K L M hA (by omega))
        have HH := ahid (And.intro hA (And.intro hQ (And.intro hi (And.intro hmk (And.intro hoq (And.intro hkq (And.intro hlq (And.intro hmq (And.intro hsz hbw)))))))))
        have HX := ahid (And.intro hat2 (And.intro hxbd (And.intro hxlt hxb)))
        clear hA hQ hi hmk hoq hkq hlq hmq hsz hbw hat hat2 hxbd hxb hx hxlt
        go_wp2_with fail
        refine C.out.mono ?_
        rintro e w3 ⟨p2, v2, m2, rfl, hO2, hA2, hb3⟩
        obtain ⟨hA, hQ, hi, hmk, hoq, hkq, hlq, hmq, hsz, hbw⟩ := HH.out
        have hb3s := hb3.size
        have hlr : ∀ k, (Value.slice pl nl cl).ownBlock = some k → k < wr.heap.size := RowC.lt (cs := L.flatMap It.cells) hi
        have hmr : ∀ k, (Value.slice pm nn cm).ownBlock = some k → k < wr.heap.size := RowC.lt (cs := M.flatMap markC) hmk
        have hO3 := hA2.ownlt
        have HDo := ahid (fun (W : World) (hW : Below w3.heap.size w3 W) => (does_any W (HT.out.keep (hbw.trans ((hb3.trans (hW.mono hb3s)).mono hbw.size))) p2 m2 v2 _ L M (hA2.keep (Only.of_below (S := fun _ => False) hW) (fun _ _ h => h) (fun _ _ h => h)) (fun k hk => by have := hk.2; have := hW.size; omega)
          (.slice pl nl cl) (.slice pm nn cm) L M ((hi.keep hb3).keep hW) ((hmk.keep hb3).keep hW) x _ HX.out.2.1 ((HX.out.1.ins.keepb hb3).keepb hW) (fun k hk => ⟨by have := hlr k hk; have := hW.size; omega, fun ho => by have := hlr k hk; have := hO2 k ho; omega⟩) (fun k hk => ⟨by have := hmr k hk; have := hW.size; omega, fun ho => by have := hmr k hk; have := hO2 k ho; omega⟩)
          (fun h0 k hk ho => by have := HX.out.2.2.1 h0 k hk; have := hO2 k ho; have := hbw.size; omega) (by omega) (by omega) (by omega) (by omega)).mono (fun e w' hd => DoesSame.of (B := wr.heap.size) hd (by have := hW.size; omega) hO2))
        have HDA := ahid (HDo.out w3.drew ((Below.refl _ _).drew))
        have HDB := ahid (HDo.out (w3.alloc (.cells #[.slice none 0 0, .slice none 0 0] 33)).drew (((Below.refl _ _).alloc (Nat.le_refl _) _).drew))
        have HKS := ahid (show ∀ w', Below wr.heap.size wr w' → w'.cell? ⟨Q, 0, none⟩ = some (.slice pl nl cl) ∧ w'.cell? ⟨Q, 1, none⟩ = some (.slice pm nn cm) ∧ w'.cell? ⟨b, o + k * 5, none⟩ = some (.int .u8 x.what) ∧ w'.cell? ⟨b, o + k * 5 + 1, none⟩ = some (.slice px nx cx) ∧ w'.cell? ⟨b, o + k * 5 + 2, none⟩ = some (.string x.nm) ∧ w'.cell? ⟨b, o + k * 5 + 3, none⟩ = some (.int .u8 x.cond) ∧ w'.cell? ⟨b, o + k * 5 + 4, none⟩ = some (.int .u32 x.wd) from fun w' hb => by
          have h1 := hQ.keepB hb hQlt
          have h2 := HX.out.1.keep hb
          exact ⟨h1.c0, h1.c1, h2.c0, h2.c1, h2.c2, h2.c3, h2.c4⟩)
        have HF := ahid (And.intro hA2 (And.intro hO2 (And.intro hO3 (And.intro hlr hmr))))
        have hle3 : wr.heap.size ≤ w3.heap.size := hb3s
        clear hA hQ hi hmk hoq hkq hlq hmq hsz hbw hA2 hO2 hO3 hlr hmr hb3s HDo
        go_wp2_with fail
        go_region_held3 (fun w' => w'.cell? ⟨Q, 0, none⟩ = some (.slice pl nl cl) ∧ w'.cell? ⟨Q, 1, none⟩ = some (.slice pm nn cm) ∧ w'.cell? ⟨b, o + k * 5, none⟩ = some (.int .u8 x.what) ∧ w'.cell? ⟨b, o + k * 5 + 1, none⟩ = some (.slice px nx cx) ∧ w'.cell? ⟨b, o + k * 5 + 2, none⟩ = some (.string x.nm) ∧ w'.cell? ⟨b, o + k * 5 + 3, none⟩ = some (.int .u8 x.cond) ∧ w'.cell? ⟨b, o + k * 5 + 4, none⟩ = some (.int .u32 x.wd)) (first | (refine HKS.out _ ?_; go_grown; done))
          (first
            | (go_at_call 10; (with_reducible refine HDA.out.mono ?_); rintro e w4 ⟨pl', nl', cl', pm', nn', cm', rfl, hd, hbd, hod⟩; have hw4 : Below wr.heap.size wr w4 := hb3.trans (((Below.refl wr.heap.size w3).drew).trans hbd); have hle4 : wr.heap.size ≤ w4.heap.size := hw4.size; have tokA : True := trivial)
            | (go_at_call 10; (with_reducible refine HDB.out.mono ?_); rintro e w4 ⟨pl', nl', cl', pm', nn', cm', rfl, hd, hbd, hod⟩; have hw4 : Below wr.heap.size wr w4 := hb3.trans ((((Below.refl wr.heap.size w3).alloc hle3 _).drew).trans hbd); have hle4 : wr.heap.size ≤ w4.heap.size := hw4.size; have hbx := ((Box2.new w3 (.slice none 0 0) (.slice none 0 0) 33)).keepO (w' := w4) (((Only.refl (Own p2 v2 m2) _).drew).trans hod) (fun ho => by have := HF.out.2.2.1 _ ho; omega); obtain ⟨r0, r1, rf0, rf1⟩ := hbx))
        · have hw3le : w3.heap.size ≤ w4.heap.size := hod.size
          have hD : Did wr w3 (w4.alloc (.cells #[.slice pl' nl' cl', .slice pm' nn' cm'] 33)) Q w4.heap.size p2 (x.L L) (x.M L M) (.slice pl' nl' cl') (.slice pm' nn' cm') := Did.of (W := w3.drew) (w2 := w4) (x := x) (lv := .slice pl nl cl) (mv := .slice pm nn cm) hQlt hb3 ((Below.refl _ _).drew) (HF.out.1.keep (Only.of_below (S := fun _ => False) ((Below.refl _ _).drew)) (fun _ _ h => h) (fun _ _ h => h)) HF.out.2.1 HF.out.2.2.1 (fun k hk => ⟨(HH.out.2.2.2.2.2.1 k hk.1).1, hk.2⟩) (fun k hk => ⟨HH.out.2.2.2.2.2.2.1 k hk, HF.out.2.2.2.1 k hk⟩) (fun k hk => ⟨HH.out.2.2.2.2.2.2.2.1 k hk, HF.out.2.2.2.2 k hk⟩) hd hw3le (.inr (Nat.le_refl _)) ((Only.refl _ w4).alloc _) (Box2.new w4 _ _ _)
          have HD := ahid hD
          skip
          clear hD hd hbd hod hw4 hle4
          go_wp2_with fail
          generalize w4.alloc (.cells #[.slice pl' nl' cl', .slice pm' nn' cm'] 33) = W9 at *
          generalize w4.heap.size = P at *
          obtain ⟨⟨v4, m4, K4, g1, g2, g3⟩, hPb, hIt, hMk, hlq', hmq', hb9, hPQ⟩ := HD.out
          have hQ9 := HH.out.2.1.keepB hb9 hQlt
          have hX9 := HX.out.1.keep hb9
          have hszn := HH.out.2.2.2.2.2.2.2.2.1.step HX.out.2.1 (InsIn.bds HX.out.1.ins)
          have HS1 := ahid (fun (W : World) (hW : Below W9.heap.size W9 W) => same_yes W (HT.out.keep ((HH.out.2.2.2.2.2.2.2.2.2.trans (hb9.mono HH.out.2.2.2.2.2.2.2.2.2.size)).trans (hW.mono (Nat.le_trans HH.out.2.2.2.2.2.2.2.2.2.size hb9.size)))) p2 m4 v4 K4 (x.L L) (x.M L M) (g1.keep (Only.of_below (S := fun _ => False) hW) (fun _ _ h => h) (fun _ _ h => h)) (.slice pl' nl' cl') (.slice pm' nn' cm') (hIt.keep hW) (hMk.keep hW) (hszn.sized (by omega)) x.nm HX.out.1.nm)
          have HS2 := ahid (fun (W : World) (hW : Below W9.heap.size W9 W) => same_yes W (HT.out.keep ((HH.out.2.2.2.2.2.2.2.2.2.trans (hb9.mono HH.out.2.2.2.2.2.2.2.2.2.size)).trans (hW.mono (Nat.le_trans HH.out.2.2.2.2.2.2.2.2.2.size hb9.size)))) p m sv K L M ((HH.out.1.keep (Only.of_below (S := fun _ => False) hb9) (fun _ _ h => h) (fun _ _ h => h)).keep (Only.of_below (S := fun _ => False) hW) (fun _ _ h => h) (fun _ _ h => h)) (.slice pl nl cl) (.slice pm nn cm) ((HH.out.2.2.1.keep hb9).keep hW) ((HH.out.2.2.2.1.keep hb9).keep hW) (HH.out.2.2.2.2.2.2.2.2.1.sized (by omega)) x.nm HX.out.1.nm)
          have HKS2 := ahid (show ∀ w', Below W9.heap.size W9 w' → w'.cell? ⟨P, 0, none⟩ = some (.slice pl' nl' cl') ∧ w'.cell? ⟨P, 1, none⟩ = some (.slice pm' nn' cm') ∧ w'.cell? ⟨Q, 0, none⟩ = some (.slice pl nl cl) ∧ w'.cell? ⟨Q, 1, none⟩ = some (.slice pm nn cm) ∧ w'.cell? ⟨b, o + k * 5 + 2, none⟩ = some (.string x.nm) from fun w' hb => by
            have h1 := hPb.keepB hb hPb.lt
            have h2 := hQ9.keepB hb hQ9.lt
            have h3 := hX9.keep hb
            exact ⟨h1.c0, h1.c1, h2.c0, h2.c1, h3.c2⟩)
          have HG := ahid (And.intro g1 (And.intro g2 (And.intro g3 (And.intro hPb (And.intro hQ9 (And.intro hIt (And.intro hMk (And.intro hlq' (And.intro hmq' (And.intro hb9 hszn))))))))))
          clear g1 g2 g3 hPb hQ9 hX9 hIt hMk hlq' hmq' hb9 hszn HKS HD
          go_region_held3 (fun w' => w'.cell? ⟨P, 0, none⟩ = some (.slice pl' nl' cl') ∧ w'.cell? ⟨P, 1, none⟩ = some (.slice pm' nn' cm') ∧ w'.cell? ⟨Q, 0, none⟩ = some (.slice pl nl cl) ∧ w'.cell? ⟨Q, 1, none⟩ = some (.slice pm nn cm) ∧ w'.cell? ⟨b, o + k * 5 + 2, none⟩ = some (.string x.nm)) (first | (refine HKS2.out _ ?_; go_grown; done))
            (first
              | (go_at_call 15; (with_reducible refine (HS1.out _ ?hb).mono ?_); (case hb => exact (Below.refl _ _).drew); rintro e w5 ⟨rfl, hb50⟩; have hb5 : Below W9.heap.size W9 w5 := ((Below.refl W9.heap.size W9).drew).trans hb50)
              | (go_at_call 15; (with_reducible refine (HS2.out _ ?hb).mono ?_); (case hb => exact hb5); rintro e w6 ⟨rfl, hb60⟩; have hb6 : Below W9.heap.size W9 w6 := abt hb5 hb60))
          all_goals
            have hPb6 := HG.out.2.2.2.1.keepB hb6 HG.out.2.2.2.1.lt
            have hQ6 := HG.out.2.2.2.2.1.keepB hb6 HG.out.2.2.2.2.1.lt
            obtain ⟨p0, p1, pf0, pf1⟩ := hPb6
            obtain ⟨q0, q1, qf0, qf1⟩ := hQ6
            have hon : Only (fun k => k = Q) w6 ((w6.setCell ⟨Q, 0, none⟩ (.slice pl' nl' cl')).setCell ⟨Q, 1, none⟩ (.slice pm' nn' cm')) := Box2.only (S := fun k => k = Q) (Only.refl _ w6) rfl _ _
            have hpair : PairAt ((w6.setCell ⟨Q, 0, none⟩ (.slice pl' nl' cl')).setCell ⟨Q, 1, none⟩ (.slice pm' nn' cm')) Q p2 (x.L L) (x.M L M) :=
              ⟨⟨v4, m4, K4, .slice pl' nl' cl', .slice pm' nn' cm', (HG.out.1.keep (Only.of_below (S := fun _ => False) hb6) (fun _ _ h => h) (fun _ _ h => h)).keep hon (fun k hk e => HG.out.2.1 k hk e) (fun k hk e => (HG.out.2.2.1 k hk).1 e),
                (Box2.mk q0 q1 qf0 qf1).set _ _, (HG.out.2.2.2.2.2.1.keep hb6).keepO hon (fun k hk e => HG.out.2.2.2.2.2.2.2.1 k hk e), (HG.out.2.2.2.2.2.2.1.keep hb6).keepO hon (fun k hk e => HG.out.2.2.2.2.2.2.2.2.1 k hk e), HG.out.2.1, fun k hk => ⟨(HG.out.2.2.1 k hk).1, Nat.lt_of_lt_of_le (HG.out.2.2.1 k hk).2 (Nat.le_trans hb6.size hon.size)⟩, HG.out.2.2.2.2.2.2.2.1, HG.out.2.2.2.2.2.2.2.2.1⟩⟩
            have hbw9 : Below w.heap.size w ((w6.setCell ⟨Q, 0, none⟩ (.slice pl' nl' cl')).setCell ⟨Q, 1, none⟩ (.slice pm' nn' cm')) := (((HH.out.2.2.2.2.2.2.2.2.2.trans (HG.out.2.2.2.2.2.2.2.2.2.1.mono HH.out.2.2.2.2.2.2.2.2.2.size)).trans (hb6.mono (Nat.le_trans HH.out.2.2.2.2.2.2.2.2.2.size HG.out.2.2.2.2.2.2.2.2.2.1.size))).setCell (p := ⟨Q, 0, none⟩) HBQ.out.2.1 _).setCell (p := ⟨Q, 1, none⟩) HBQ.out.2.1 _
            have hsn := HG.out.2.2.2.2.2.2.2.2.2.2
            have HE := ahid (And.intro hpair (And.intro hbw9 hsn))
            clear hpair hbw9 hsn hon
            go_wp2_with fail
            go_roundw
            case rel => exact ⟨k + 1, p2, x.L L, x.M L M, by omega, by go_num, rfl, HE.out.1, HE.out.2.2, HE.out.2.1⟩
            case measure => simp [intOf]; omega
        · have hD : Did wr w3 ((w4.setCell ⟨w3.heap.size, 0, none⟩ (.slice pl' nl' cl')).setCell ⟨w3.heap.size, 1, none⟩ (.slice pm' nn' cm')) Q w3.heap.size p2 (x.L L) (x.M L M) (.slice pl' nl' cl') (.slice pm' nn' cm') := Did.of (W := (w3.alloc (.cells #[.slice none 0 0, .slice none 0 0] 33)).drew) (w2 := w4) (x := x) (lv := .slice pl nl cl) (mv := .slice pm nn cm) hQlt hb3 (((Below.refl _ _).alloc (Nat.le_refl _) _).drew) (HF.out.1.keep (Only.of_below (S := fun _ => False) (((Below.refl _ _).alloc (Nat.le_refl _) _).drew)) (fun _ _ h => h) (fun _ _ h => h)) HF.out.2.1 HF.out.2.2.1 (fun k hk => ⟨(HH.out.2.2.2.2.2.1 k hk.1).1, hk.2⟩) (fun k hk => ⟨HH.out.2.2.2.2.2.2.1 k hk, HF.out.2.2.2.1 k hk⟩) (fun k hk => ⟨HH.out.2.2.2.2.2.2.2.1 k hk, HF.out.2.2.2.2 k hk⟩) hd (Nat.le_refl _) (.inl (by simp [World.drew])) (Box2.only (S := fun k => k = w3.heap.size) (Only.refl _ w4) rfl _ _) ((Box2.mk r0 r1 rf0 rf1).set _ _)
          have HD := ahid hD
          clear r0 r1 rf0 rf1
          clear hD hd hbd hod hw4 hle4
          go_wp2_with fail
          generalize (w4.setCell ⟨w3.heap.size, 0, none⟩ (.slice pl' nl' cl')).setCell ⟨w3.heap.size, 1, none⟩ (.slice pm' nn' cm') = W9 at *
          generalize w3.heap.size = P at *
          obtain ⟨⟨v4, m4, K4, g1, g2, g3⟩, hPb, hIt, hMk, hlq', hmq', hb9, hPQ⟩ := HD.out
          have hQ9 := HH.out.2.1.keepB hb9 hQlt
          have hX9 := HX.out.1.keep hb9
          have hszn := HH.out.2.2.2.2.2.2.2.2.1.step HX.out.2.1 (InsIn.bds HX.out.1.ins)
          have HS1 := ahid (fun (W : World) (hW : Below W9.heap.size W9 W) => same_yes W (HT.out.keep ((HH.out.2.2.2.2.2.2.2.2.2.trans (hb9.mono HH.out.2.2.2.2.2.2.2.2.2.size)).trans (hW.mono (Nat.le_trans HH.out.2.2.2.2.2.2.2.2.2.size hb9.size)))) p2 m4 v4 K4 (x.L L) (x.M L M) (g1.keep (Only.of_below (S := fun _ => False) hW) (fun _ _ h => h) (fun _ _ h => h)) (.slice pl' nl' cl') (.slice pm' nn' cm') (hIt.keep hW) (hMk.keep hW) (hszn.sized (by omega)) x.nm HX.out.1.nm)
          have HS2 := ahid (fun (W : World) (hW : Below W9.heap.size W9 W) => same_yes W (HT.out.keep ((HH.out.2.2.2.2.2.2.2.2.2.trans (hb9.mono HH.out.2.2.2.2.2.2.2.2.2.size)).trans (hW.mono (Nat.le_trans HH.out.2.2.2.2.2.2.2.2.2.size hb9.size)))) p m sv K L M ((HH.out.1.keep (Only.of_below (S := fun _ => False) hb9) (fun _ _ h => h) (fun _ _ h => h)).keep (Only.of_below (S := fun _ => False) hW) (fun _ _ h => h) (fun _ _ h => h)) (.slice pl nl cl) (.slice pm nn cm) ((HH.out.2.2.1.keep hb9).keep hW) ((HH.out.2.2.2.1.keep hb9).keep hW) (HH.out.2.2.2.2.2.2.2.2.1.sized (by omega)) x.nm HX.out.1.nm)
          have HKS2 := ahid (show ∀ w', Below W9.heap.size W9 w' → w'.cell? ⟨P, 0, none⟩ = some (.slice pl' nl' cl') ∧ w'.cell? ⟨P, 1, none⟩ = some (.slice pm' nn' cm') ∧ w'.cell? ⟨Q, 0, none⟩ = some (.slice pl nl cl) ∧ w'.cell? ⟨Q, 1, none⟩ = some (.slice pm nn cm) ∧ w'.cell? ⟨b, o + k * 5 + 2, none⟩ = some (.string x.nm) from fun w' hb => by
            have h1 := hPb.keepB hb hPb.lt
            have h2 := hQ9.keepB hb hQ9.lt
            have h3 := hX9.keep hb
            exact ⟨h1.c0, h1.c1, h2.c0, h2.c1, h3.c2⟩)
          have HG := ahid (And.intro g1 (And.intro g2 (And.intro g3 (And.intro hPb (And.intro hQ9 (And.intro hIt (And.intro hMk (And.intro hlq' (And.intro hmq' (And.intro hb9 hszn))))))))))
          clear g1 g2 g3 hPb hQ9 hX9 hIt hMk hlq' hmq' hb9 hszn HKS HD
          go_region_held3 (fun w' => w'.cell? ⟨P, 0, none⟩ = some (.slice pl' nl' cl') ∧ w'.cell? ⟨P, 1, none⟩ = some (.slice pm' nn' cm') ∧ w'.cell? ⟨Q, 0, none⟩ = some (.slice pl nl cl) ∧ w'.cell? ⟨Q, 1, none⟩ = some (.slice pm nn cm) ∧ w'.cell? ⟨b, o + k * 5 + 2, none⟩ = some (.string x.nm)) (first | (refine HKS2.out _ ?_; go_grown; done))
            (first
              | (go_at_call 15; (with_reducible refine (HS1.out _ ?hb).mono ?_); (case hb => exact (Below.refl _ _).drew); rintro e w5 ⟨rfl, hb50⟩; have hb5 : Below W9.heap.size W9 w5 := ((Below.refl W9.heap.size W9).drew).trans hb50)
              | (go_at_call 15; (with_reducible refine (HS2.out _ ?hb).mono ?_); (case hb => exact hb5); rintro e w6 ⟨rfl, hb60⟩; have hb6 : Below W9.heap.size W9 w6 := abt hb5 hb60))
          all_goals
            have hPb6 := HG.out.2.2.2.1.keepB hb6 HG.out.2.2.2.1.lt
            have hQ6 := HG.out.2.2.2.2.1.keepB hb6 HG.out.2.2.2.2.1.lt
            obtain ⟨p0, p1, pf0, pf1⟩ := hPb6
            obtain ⟨q0, q1, qf0, qf1⟩ := hQ6
            have hon : Only (fun k => k = Q) w6 ((w6.setCell ⟨Q, 0, none⟩ (.slice pl' nl' cl')).setCell ⟨Q, 1, none⟩ (.slice pm' nn' cm')) := Box2.only (S := fun k => k = Q) (Only.refl _ w6) rfl _ _
            have hpair : PairAt ((w6.setCell ⟨Q, 0, none⟩ (.slice pl' nl' cl')).setCell ⟨Q, 1, none⟩ (.slice pm' nn' cm')) Q p2 (x.L L) (x.M L M) :=
              ⟨⟨v4, m4, K4, .slice pl' nl' cl', .slice pm' nn' cm', (HG.out.1.keep (Only.of_below (S := fun _ => False) hb6) (fun _ _ h => h) (fun _ _ h => h)).keep hon (fun k hk e => HG.out.2.1 k hk e) (fun k hk e => (HG.out.2.2.1 k hk).1 e),
                (Box2.mk q0 q1 qf0 qf1).set _ _, (HG.out.2.2.2.2.2.1.keep hb6).keepO hon (fun k hk e => HG.out.2.2.2.2.2.2.2.1 k hk e), (HG.out.2.2.2.2.2.2.1.keep hb6).keepO hon (fun k hk e => HG.out.2.2.2.2.2.2.2.2.1 k hk e), HG.out.2.1, fun k hk => ⟨(HG.out.2.2.1 k hk).1, Nat.lt_of_lt_of_le (HG.out.2.2.1 k hk).2 (Nat.le_trans hb6.size hon.size)⟩, HG.out.2.2.2.2.2.2.2.1, HG.out.2.2.2.2.2.2.2.2.1⟩⟩
            have hbw9 : Below w.heap.size w ((w6.setCell ⟨Q, 0, none⟩ (.slice pl' nl' cl')).setCell ⟨Q, 1, none⟩ (.slice pm' nn' cm')) := (((HH.out.2.2.2.2.2.2.2.2.2.trans (HG.out.2.2.2.2.2.2.2.2.2.1.mono HH.out.2.2.2.2.2.2.2.2.2.size)).trans (hb6.mono (Nat.le_trans HH.out.2.2.2.2.2.2.2.2.2.size HG.out.2.2.2.2.2.2.2.2.2.1.size))).setCell (p := ⟨Q, 0, none⟩) HBQ.out.2.1 _).setCell (p := ⟨Q, 1, none⟩) HBQ.out.2.1 _
            have hsn := HG.out.2.2.2.2.2.2.2.2.2.2
            have HE := ahid (And.intro hpair (And.intro hbw9 hsn))
            clear hpair hbw9 hsn hon
            go_wp2_with fail
            go_roundw
            case rel => exact ⟨k + 1, p2, x.L L, x.M L M, by omega, by go_num, rfl, HE.out.1, HE.out.2.2, HE.out.2.1⟩
            case measure => simp [intOf]; omega
      · obtain rfl : k = l.length := by omega
        have hkl : ¬ ((l.length : Int) < l.length) := by omega
        have HH := ahid (ahead_any7 wr (HT.out.keep hbw))
        have HB := ahid hbw
        clear hA hQ hi hmk hoq hkq hlq hmq hsz hbw
        go_wp2_with fail
        refine HH.out.mono ?_
        rintro e w9 ⟨rfl, hb⟩
        have HB9 := ahid (abt HB.out hb)
        clear hb
        go_wp2_with fail
        go_ret
        exact ⟨rfl, HB9.out⟩
end Go.Proofs.YtimhpohlaagbpaaDoor
