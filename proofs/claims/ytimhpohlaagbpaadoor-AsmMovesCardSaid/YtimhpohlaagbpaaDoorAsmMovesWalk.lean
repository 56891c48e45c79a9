/- The walk of muntinlaw07.AsmMoves: wherever it stands. -/
import Derived.Test.YtimhpohlaagbpaaDoorAsmMovesLaw
import Derived.Deep.RegionLaw
namespace Go.Proofs.YtimhpohlaagbpaaDoor
open Go.RowKit Go.Maps
set_option linter.unusedVariables false
set_option linter.unusedSimpArgs false
theorem Two.start {w w1 w2 w3 w4 : World} {pa ma pb mb : Nat} {more : List Ix} (hb1 : Below w.heap.size w w1) (ha : w1.heap.size ≤ pa ∧ w1.heap.size ≤ ma) (hA : AsmAt w2 pa (.slice none 0 0) ma (fun _ => False) [] []) (hb2 : Below w1.heap.size w1 w2) (hb : w2.heap.size ≤ pb ∧ w2.heap.size ≤ mb) (hB : AsmAt w3 pb (.slice none 0 0) mb (fun _ => False) [] []) (hb3 : Below w2.heap.size w2 w3)
    (hst : StepTo w3 pb (.slice none 0 0) mb (fun _ => False) (more.map .put) [] w4) :
    (∃ svb Kb, Two w.heap.size ((w4.alloc (.cells #[.slice none 0 0, .slice none 0 0] 33)).alloc (.cells #[.slice none 0 0, .slice none 0 0] 33)) w4.heap.size (w4.heap.size + 1) pa pb (.slice none 0 0) ma (fun _ => False) svb mb Kb (.slice none 0 0) (.slice none 0 0) (.slice none 0 0) (.slice none 0 0) [] [] (more.map .put) [] [] [] [] []) ∧ Below w.heap.size w w4 := by
  obtain ⟨v', K', g1, g2, g3, g4⟩ := hst
  have s1 := hb1.size
  have s2 := hb2.size
  have s3 := hb3.size
  have s4 := g2.size
  have hAl := hA.ownlt
  have hBl := hB.ownlt
  have hOa : ∀ k, Own pa (.slice none 0 0) ma k → w1.heap.size ≤ k := by
    rintro k (rfl | h | rfl)
    · exact ha.1
    · simp [Value.ownBlock] at h
    · exact ha.2
  have hOb0 : ∀ k, Own pb (.slice none 0 0) mb k → w2.heap.size ≤ k := by
    rintro k (rfl | h | rfl)
    · exact hb.1
    · simp [Value.ownBlock] at h
    · exact hb.2
  have hown := g1.ownlt
  have hOb : ∀ k, Own pb v' mb k → w2.heap.size ≤ k := fun k hk => by
    rcases Nat.lt_or_ge k w3.heap.size with h1 | h1
    · exact hOb0 k (g3 k h1 hk)
    · omega
  have hKb : ∀ k, K' k → w3.heap.size ≤ k := fun k hk => by
    rcases Nat.lt_or_ge k w3.heap.size with h1 | h1
    · exact (g4 k h1 hk).elim
    · exact h1
  have hbel : Below w.heap.size w w4 := ((hb1.trans (hb2.mono s1)).trans (hb3.mono (by omega))).trans (g2.below (by omega) (fun k hk ho => by have := hOb0 k ho; omega))
  have hal : Below w4.heap.size w4 ((w4.alloc (.cells #[.slice none 0 0, .slice none 0 0] 33)).alloc (.cells #[.slice none 0 0, .slice none 0 0] 33)) := ((Below.refl _ _).alloc (Nat.le_refl _) _).alloc (by simp) _
  refine ⟨⟨v', fun k => K' k ∧ k < w4.heap.size, ⟨?_, ?_, (Box2.new w4 _ _ _).al _, ?_, RowC.nil _ _, RowC.nil _ _, RowC.nil _ _, RowC.nil _ _, ?_, ?_, ?_, ?_, ?_, ?_, ?_, by omega, by omega, by omega⟩⟩, hbel⟩
  · exact ((hA.keep (Only.of_below (S := fun _ => False) hb3) (fun _ _ h => h) (fun _ _ h => h)).keep g2 (fun k hk ho => by have := hAl k hk; have := hOb0 k ho; omega) (fun k hk => hk.elim)).keep (Only.of_below (S := fun _ => False) hal) (fun _ _ h => h) (fun _ _ h => h)
  · exact g1.trim.keep (Only.of_below (S := fun _ => False) hal) (fun _ _ h => h) (fun _ _ h => h)
  · have := Box2.new (w4.alloc (.cells #[.slice none 0 0, .slice none 0 0] 33)) (.slice none 0 0) (.slice none 0 0) 33
    rw [show (w4.alloc (.cells #[.slice none 0 0, .slice none 0 0] 33)).heap.size = w4.heap.size + 1 by simp] at this
    exact this
  · intro k hk
    have := hAl k hk
    exact ⟨fun ho => by have := hOb k ho; omega, fun ho => by have := hKb k ho.1; omega⟩
  · intro k hk h; exact h
  · intro k hk
    have := hAl k hk
    have := hOa k hk
    exact ⟨by omega, by omega, by omega, by simp [Value.ownBlock], by simp [Value.ownBlock], by simp [Value.ownBlock], by simp [Value.ownBlock]⟩
  · intro k hk
    have := hown k hk
    have := hOb k hk
    exact ⟨by omega, by omega, by omega, by simp [Value.ownBlock], by simp [Value.ownBlock], by simp [Value.ownBlock], by simp [Value.ownBlock]⟩
  · intro k hk; exact hk.elim
  · intro k hk
    exact ⟨by have := hk.2; simp; omega, by have := hk.2; omega, by have := hk.2; omega⟩
  · intro k hk
    simp [Value.ownBlock] at hk
set_option maxRecDepth 100000 in
set_option maxHeartbeats 2000000 in
theorem moves_great (v : Value) (l : List Actx) (v2 : Value) (more : List Ix) (w : World) (ht : Tab w) (h : ActsIn w v l) (hm : ∃ p c, v2 = .slice p more.length c) (hg : greatB l = true ∨ 60 < more.length) :
    Calls Tryd.prog 3 #[v, v2] w fun e w' => e = .returned (.bool true) ∧ Below w.heap.size w w' := by
  obtain ⟨p2, c2, rfl⟩ := hm
  have HT := ahid ht
  have HG := ahid (great_any w v l h)
  clear ht h
  cases hgb : greatB l with
  | true =>
    rw [hgb] at HG
    clear hg hgb
    go_enter Tryd.func3, Tryd.ntmps3
    go_wp2_with fail
    refine HG.out.mono ?_
    rintro e w1 ⟨rfl, hb⟩
    have HB := ahid hb
    clear hb
    go_wp2_with fail
    refine (ahead_any7 w1 (HT.out.keep HB.out)).mono ?_
    rintro e w2 ⟨rfl, hb⟩
    have HB2 := ahid hb
    clear hb
    go_wp2_with fail
    go_ret
    exact ⟨rfl, abt HB.out HB2.out⟩
  | false =>
    rw [hgb] at HG hg
    have hm60 : (60 : Int) < more.length := by rcases hg with h | h; · cases h
                                               · omega
    clear hg hgb
    go_enter Tryd.func3, Tryd.ntmps3
    go_wp2_with fail
    refine HG.out.mono ?_
    rintro e w1 ⟨rfl, hb⟩
    have HB := ahid hb
    clear hb
    go_wp2_with fail
    refine (ahead_any7 w1 (HT.out.keep HB.out)).mono ?_
    rintro e w2 ⟨rfl, hb⟩
    have HB2 := ahid hb
    clear hb
    go_wp2_with fail
    go_ret
    exact ⟨rfl, abt HB.out HB2.out⟩
set_option maxRecDepth 100000 in
set_option maxHeartbeats 2000000 in
theorem moves_no (v : Value) (l : List Actx) (p2 : Option Addr) (c2 : Nat) (more : List Ix) (w : World) (ht : Tab w) (h : ActsIn w v l) (hm : InsIn w (.slice p2 more.length c2) more) (hg : greatB l = false) (h60 : more.length ≤ 60) (hmay : ¬ ∀ x ∈ more, mayP x) :
    Calls Tryd.prog 3 #[v, .slice p2 more.length c2] w fun e w' => e = .returned (.bool true) ∧ Below w.heap.size w w' := by
  have HT := ahid ht
  have hgr := great_any w v l h
  rw [hg] at hgr
  have HG := ahid hgr
  have HM := ahid hm
  have hE : putE more = 2 := if_neg hmay
  have hm60 : ¬ (60 : Int) < more.length := by omega
  have HE := ahid hE
  clear ht h hgr hg hm hE hmay
  go_enter Tryd.func3, Tryd.ntmps3
  go_wp2_with fail
  refine HG.out.mono ?_
  rintro e w1 ⟨rfl, hb⟩
  have HB1 := ahid hb
  clear hb
  go_wp2_with fail
  refine (anew_any w1).mono ?_
  rintro e w2 ⟨pa, ma, rfl, ha1, ha2, hA, hb2⟩
  have HA := ahid (And.intro (And.intro ha1 ha2) (And.intro hA hb2))
  clear ha1 ha2 hA hb2
  go_wp2_with fail
  refine (anew_any w2).mono ?_
  rintro e w3 ⟨pb, mb, rfl, hb1, hb2, hB, hb3⟩
  have HC := ahid (And.intro (And.intro hb1 hb2) (And.intro hB hb3))
  have HW3 := ahid (abt (abt HB1.out HA.out.2.2) hb3)
  have HP := ahid ((aput_any w3 (HT.out.keep HW3.out) pb mb _ _ [] [] hB _ more (HM.out.keepb HW3.out) (by simp; omega)))
  clear hb1 hb2 hB hb3
  go_wp2_with fail
  refine HP.out.mono ?_
  intro e w4 hh
  obtain ⟨rfl, hst⟩ := put_step HC.out.2.1 hh
  clear hh HP
  rw [HE.out]
  have HST := ahid hst
  clear hst
  have HW4 : Hid (Below w.heap.size w w4) := by
    obtain ⟨v', K', g1, g2, g3, g4⟩ := HST.out
    have s1 := HB1.out.size
    have s2 := HA.out.2.2.size
    have s3 := HC.out.2.2.size
    refine ahid (HW3.out.trans (g2.below (by omega) ?_))
    rintro k hk (rfl | h | rfl)
    · have := HC.out.1.1; omega
    · simp [Value.ownBlock] at h
    · have := HC.out.1.2; omega
  go_wp2_with fail
  refine (ahead_any7 w4 (HT.out.keep HW4.out)).mono ?_
  rintro e w5 ⟨rfl, hb⟩
  have HB2 := ahid hb
  clear hb
  go_wp2_with fail
  go_ret
  exact ⟨rfl, abt HW4.out HB2.out⟩
theorem reads_drop {w : World} {g cap n c : Nat} {lb ys la : List Int} (h : Reads32 w (.slice (some ⟨g, 0, none⟩) lb.length cap) lb) (hl : lb = ys ++ la) (hn : ys.length = n) : Reads32 w (.slice (some ⟨g, n, none⟩) la.length c) la := by
  obtain ⟨h1, p, c', he, h2⟩ := h
  cases he
  have hlen : lb.length = n + la.length := by rw [hl, List.length_append, hn]
  refine ⟨by omega, _, c, rfl, fun h0 => ⟨g, n, rfl, fun k hk => ?_⟩⟩
  obtain ⟨b, o, hb, h3⟩ := h2 (by omega)
  cases hb
  have := h3 (n + k) (by omega)
  rw [Nat.zero_add] at this
  rw [this]
  congr 2
  rw [hl, List.getD_eq_getElem?_getD, List.getD_eq_getElem?_getD, List.getElem?_append_right (by omega), hn, show n + k - n = k by omega]
theorem does_in {w0 w : World} {Q1 Q2 pa pb ma mb : Nat} {sva svb lq mq lp mp : Value} {Ka Kb : Nat → Prop} {La Lb Lq Lp : List It} {Ma Mb Mq Mp : List (List UInt8 × Int)} (h : Two w0.heap.size w Q1 Q2 pa pb sva ma Ka svb mb Kb lq mq lp mp La Ma Lb Mb Lq Mq Lp Mp) (hbw : Below w0.heap.size w0 w) (ht : Tab w) (x : Actx) (hx : x.bd) {b o : Nat} {xv : Value} (hat : Act7At w0 b o x xv)
    (s1 : La.length + 1000 < 4294967296) (s2 : Lq.length + 1000 < 4294967296) (s3 : Ma.length < 4294967296) (s4 : Mq.length < 4294967296) :
    Calls Tryd.prog 10 #[.pointer (some ⟨pa, 0, none⟩), .agg #[lq, mq], .agg #[.int .u8 x.what, xv, .string x.nm, .int .u8 x.cond, .int .u32 x.wd]] w.drew (fun e w' => ∃ pl nl cl pm nn cm bb, e = .returned (.tuple #[.agg #[.slice pl nl cl, .slice pm nn cm], .bool bb]) ∧ DoesOk w.drew pa sva ma Ka x La Ma lq mq Lq Mq (.returned (.tuple #[.agg #[.slice pl nl cl, .slice pm nn cm], .bool bb])) w' ∧ Box2 w' Q1 lq mq) := by
  have hb0 : Below w.heap.size w w.drew := (Below.refl _ _).drew
  have h2 := h.keepb hb0
  refine (does_any w.drew (ht.keep hb0) pa ma sva Ka La Ma h2.A (fun k hk => (h2.ka k hk).1) lq mq Lq Mq h2.iq h2.kq x xv hx ((hat.ins.keepb hbw).keepb hb0)
    (fun k hk => ⟨RowC.lt (cs := Lq.flatMap It.cells) h2.iq k hk, fun ho => (h2.oa k ho).2.2.2.1 hk⟩) (fun k hk => ⟨RowC.lt (cs := Mq.flatMap markC) h2.kq k hk, fun ho => (h2.oa k ho).2.2.2.2.1 hk⟩)
    (fun h0 k hk ho => by have := hat.ins.lt h0 k hk; have := (h2.oa k ho).1; omega) s1 s2 s3 s4).mono fun e w' hd => ?_
  obtain ⟨lv', mv', bb, v', K', rfl, hb, h1, h2, h3, h4, h5, h6, h7, h8, h9⟩ := hd
  obtain ⟨pl, nl, cl, rfl⟩ := h5.shape
  obtain ⟨pm, nn, cm, rfl⟩ := h6.shape
  exact ⟨pl, nl, cl, pm, nn, cm, bb, rfl, ⟨_, _, _, v', K', rfl, hb, h1, h2, h3, h4, h5, h6, h7, h8, h9⟩, (h.keepb hb0).q.keepO h2 (fun ho => (h.oa _ ho).2.1 rfl)⟩
set_option maxRecDepth 100000 in
set_option maxHeartbeats 8000000 in
theorem moves_yes (v : Value) (l : List Actx) (p2 : Option Addr) (c2 : Nat) (more : List Ix) (w : World) (ht : Tab w) (h : ActsIn w v l) (hm : InsIn w (.slice p2 more.length c2) more) (hg : greatB l = false) (h60 : more.length ≤ 60) (hmay : ∀ x ∈ more, mayP x) :
    Calls Tryd.prog 3 #[v, .slice p2 more.length c2] w fun e w' => e = .returned (.bool true) ∧ Below w.heap.size w w' := by
  have HT := ahid ht
  have hgr := great_any w v l h
  rw [hg] at hgr
  have HG := ahid hgr
  have HM := ahid hm
  have hE : putE more = 0 := if_pos hmay
  have hPL : putL [] more = more.map .put := by unfold putL; rw [if_pos hmay]; rfl
  have hm60 : ¬ (60 : Int) < more.length := by omega
  have HE := ahid (And.intro hE hPL)
  have hbn : l.length ≤ 60 ∧ greatN l ≤ 1000 := by unfold greatB at hg; simp only [decide_eq_false_iff_not, not_or, Nat.not_lt] at hg; exact hg
  obtain ⟨hl0, hl1, pv, cv, b, o, rfl, hpv, hact⟩ := h
  have HL := ahid (fun x (hx : x ∈ l) => (by have := greatN_mem l x hx; have := hbn.2; omega : x.l.length ≤ 1000 ∧ x.nm.size ≤ 1000))
  have HAct := ahid hact
  have HPv := ahid hpv
  have hn60 := hbn.1
  clear ht hgr hg hm hE hPL hmay hl0 hl1 hpv hact hbn
  go_enter Tryd.func3, Tryd.ntmps3
  go_wp2_with fail
  refine HG.out.mono ?_
  rintro e w1 ⟨rfl, hb⟩
  have HB1 := ahid hb
  clear hb
  go_wp2_with fail
  refine (anew_any w1).mono ?_
  rintro e w2 ⟨pa, ma, rfl, ha1, ha2, hA, hb2⟩
  have HA := ahid (And.intro (And.intro ha1 ha2) (And.intro hA hb2))
  clear ha1 ha2 hA hb2
  go_wp2_with fail
  refine (anew_any w2).mono ?_
  rintro e w3 ⟨pb, mb, rfl, hb1, hb2, hB, hb3⟩
  have HC := ahid (And.intro (And.intro hb1 hb2) (And.intro hB hb3))
  have HW3 := ahid (abt (abt HB1.out HA.out.2.2) hb3)
  have HP := ahid ((aput_any w3 (HT.out.keep HW3.out) pb mb _ _ [] [] hB _ more (HM.out.keepb HW3.out) (by simp; omega)))
  clear hb1 hb2 hB hb3
  go_wp2_with fail
  refine HP.out.mono ?_
  intro e w4 hh
  obtain ⟨rfl, hst⟩ := put_step HC.out.2.1 hh
  clear hh HP
  rw [HE.out.1]
  rw [HE.out.2] at hst
  have hTwo := Two.start HB1.out HA.out.1 HA.out.2.1 HA.out.2.2 HC.out.1 HC.out.2.1 HC.out.2.2 hst
  obtain ⟨⟨svb, Kb, hTwo⟩, hbw4⟩ := hTwo
  have HTwo := ahid hTwo
  have HBQ := ahid (show Below w.heap.size w ((w4.alloc (.cells #[.slice none 0 0, .slice none 0 0] 33)).alloc (.cells #[.slice none 0 0, .slice none 0 0] 33)) from (hbw4.alloc hbw4.size _).alloc (by have := hbw4.size; simp; omega) _)
  clear hst hTwo hbw4
  go_wp2_with fail
  generalize (w4.alloc (.cells #[.slice none 0 0, .slice none 0 0] 33)).alloc (.cells #[.slice none 0 0, .slice none 0 0] 33) = W0 at *
  generalize w4.heap.size + 1 = Q2 at *
  generalize w4.heap.size = Q1 at *
  go_loopw [9] (fun i wr => ∃ (k : Nat) (L : List It) (M : List (List UInt8 × Int)), k ≤ l.length ∧ i = .int .i64 k ∧ (∃ sva Ka svb Kb lq mq lp mp, Two w.heap.size wr Q1 Q2 pa pb sva ma Ka svb mb Kb lq mq lp mp L M (more.map .put ++ L) (shiftM more.length M) L M L M) ∧ SizedK L M k ∧ Below w.heap.size w wr) (fun i _ => l.length - (intOf i).toNat)
  case atStart => exact ⟨0, [], [], Nat.zero_le _, rfl, ⟨_, _, _, _, _, _, _, _, by rw [List.append_nil]; exact HTwo.out⟩, SizedK.nil, HBQ.out⟩
  case round =>
    obtain ⟨k, L, M, hk, rfl, ⟨sva, Ka, svb, Kb, lq, mq, lp, mp, hT⟩, hsz, hbw⟩ := hrel
    by_cases hlk : k < l.length
    · obtain ⟨x, hx⟩ : ∃ x, l[k]? = some x := ⟨_, List.getElem?_eq_getElem hlk⟩
      obtain rfl := HPv.out (by omega)
      obtain ⟨xv, hat⟩ := HAct.out k x hx
      have hxb := HL.out x (List.mem_of_getElem? hx)
      have hxbd : x.bd := ⟨hat.b0, hat.b1, hat.b2, hat.nm, hxb.1⟩
      have hxlt := hat.ins.lt
      obtain ⟨px, nx, cx, rfl⟩ : ∃ p n c, xv = .slice p n c := by obtain ⟨_, p, c, _, _, h, _⟩ := hat.ins; exact ⟨_, _, _, h⟩
      obtain ⟨pl, nl, cl, rfl⟩ := hT.iq.shape
      obtain ⟨pm, nn, cm, rfl⟩ := hT.kq.shape
      obtain ⟨pl2, nl2, cl2, rfl⟩ := hT.ip.shape
      obtain ⟨pm2, nn2, cm2, rfl⟩ := hT.kp.shape
      have hLlen := hsz.len
      have hMlen := hsz.mlen
      have hkl : (k : Int) < l.length := by omega
      have HX := ahid (And.intro hat (And.intro hxbd (And.intro hxlt (hsz.step hxbd hat.ins.bds))))
      have HTT := ahid hT
      have HBw := ahid hbw
      have hX1 := hat.keep hbw
      obtain ⟨q0, q1, qf0, qf1⟩ := hT.q
      obtain ⟨x0, x1, x2, x3, x4, _, _, _, _, _⟩ := hX1
      have HD := ahid (does_in hT hbw (HT.out.keep hbw) x hxbd hat (by omega) (by omega) (by omega) (by omega))
      clear hT hsz hbw hat hxb hxbd hxlt hx
      go_wp2_with fail
      go_region_law (first | (go_simp; go_at_call 10; refine HD.out.mono ?_; rintro e w5 ⟨pl', nl', cl', pm', nn', cm', bb, rfl, hd, hq5⟩; obtain ⟨r0, r1, rf0, rf1⟩ := hq5))
      all_goals
        have hb0 : Below wr.heap.size wr wr.drew := (Below.refl _ _).drew
        obtain ⟨sva', Ka', hT1, hbs⟩ := (HTT.out.keepb hb0).step HBw.out.size hd
        have hbw1 : Below w.heap.size w ((w5.setCell ⟨Q1, 0, none⟩ (.slice pl' nl' cl')).setCell ⟨Q1, 1, none⟩ (.slice pm' nn' cm')) := (HBw.out.drew).trans hbs
        have HTT1 := ahid hT1
        have HBw1 := ahid hbw1
        clear hd hb0 hT1 hbs hbw1 r0 r1 rf0 rf1 q0 q1 qf0 qf1 x0 x1 x2 x3 x4 HD HTT
        go_wp2_with fail
        generalize (w5.setCell ⟨Q1, 0, none⟩ (.slice pl' nl' cl')).setCell ⟨Q1, 1, none⟩ (.slice pm' nn' cm') = W1 at *
        have hT1 := HTT1.out.swap
        have hX1 := HX.out.1.keep HBw1.out
        obtain ⟨q0, q1, qf0, qf1⟩ := hT1.q
        obtain ⟨x0, x1, x2, x3, x4, _, _, _, _, _⟩ := hX1
        have HD := ahid (does_in hT1 HBw1.out (HT.out.keep HBw1.out) x HX.out.2.1 HX.out.1 (by rw [List.length_append, List.length_map]; omega) (by omega) (by rw [show (shiftM more.length M).length = M.length by simp [shiftM]]; omega) (by omega))
        have HTT2 := ahid hT1
        clear hT1 HTT1
        go_region_law (first | (go_simp; go_at_call 10; refine HD.out.mono ?_; rintro e w6 ⟨pl3, nl3, cl3, pm3, nn3, cm3, b3, rfl, hd, hq6⟩; obtain ⟨r0, r1, rf0, rf1⟩ := hq6))
        all_goals
          have hb0 : Below W1.heap.size W1 W1.drew := (Below.refl _ _).drew
          obtain ⟨svb', Kb', hT2, hbs⟩ := (HTT2.out.keepb hb0).step HBw1.out.size hd
          have hbw2 : Below w.heap.size w ((w6.setCell ⟨Q2, 0, none⟩ (.slice pl3 nl3 cl3)).setCell ⟨Q2, 1, none⟩ (.slice pm3 nn3 cm3)) := (HBw1.out.drew).trans hbs
          have e1 : x.L (more.map It.put ++ L) = more.map It.put ++ x.L L := x.L_app _ _
          have e2 : x.M (more.map It.put ++ L) (shiftM more.length M) = shiftM more.length (x.M L M) := by
            have := x.M_shift (more.map It.put) L M
            rw [List.length_map] at this; exact this
          rw [e1, e2] at hT2
          have HFin := ahid (And.intro hT2.swap hbw2)
          clear hd hb0 hT2 hbs hbw2 r0 r1 rf0 rf1 q0 q1 qf0 qf1 x0 x1 x2 x3 x4 HD HTT2 e1 e2
          go_wp2_with fail
          go_roundw
          case rel => exact ⟨k + 1, x.L L, x.M L M, by omega, by go_num, ⟨_, _, _, _, _, _, _, _, HFin.out.1⟩, HX.out.2.2.2, HFin.out.2⟩
          case measure => simp [intOf]; omega
    · obtain rfl : k = l.length := by omega
      have hkl : ¬ ((l.length : Int) < l.length) := by omega
      have HTT := ahid (And.intro hT (And.intro hsz hbw))
      clear hT hsz hbw
      go_wp2_with fail
      refine (awords_any wr (HT.out.keep HTT.out.2.2) pa ma sva Ka L M HTT.out.1.A (by have := HTT.out.2.1.len; omega) (fun nm t ht => by have := HTT.out.2.1.marks nm t ht; omega)).mono ?_
      rintro e w5 ⟨va, la, rfl, hla, hoa, hb5⟩
      have HR1 := ahid (And.intro (Reads32.of_own hoa) hla)
      obtain ⟨p5, n5, c5, rfl, hn5⟩ : ∃ p n c, va = .slice p n c ∧ n = la.length := by obtain ⟨_, p, c, h, _⟩ := HR1.out.1; exact ⟨_, _, _, h, rfl⟩
      have HT5 := ahid (And.intro (HTT.out.1.keepb hb5) (HTT.out.2.2.trans (hb5.mono HTT.out.2.2.size)))
      clear hla hoa hb5
      go_wp2_with fail
      refine (awords_any w5 (HT.out.keep HT5.out.2) pb mb svb Kb _ _ HT5.out.1.B (by rw [List.length_append, List.length_map]; have := HTT.out.2.1.len; omega) (fun nm t ht => by
        rw [look_shift] at ht
        cases hm : look M nm with
        | none => rw [hm] at ht; cases ht
        | some n => rw [hm] at ht; simp only [Option.map_some, Option.some.injEq] at ht; have := HTT.out.2.1.marks nm n hm; omega)).mono ?_
      rintro e w6 ⟨vb, lb, rfl, hlb, hob, hb6⟩
      rw [(words_behind more L M).1] at hlb ⊢
      have hHR2 := Reads32.of_own hob
      have hshape : (vb = .slice none 0 0 ∧ lb.length = 0) ∨ ∃ g cap, vb = .slice (some ⟨g, 0, none⟩) lb.length cap ∧ lb.length ≤ cap ∧ cap ≤ maxLen := by
        rcases hob.2 with h | ⟨g, cap, cur, h1, _, _, h2, h3, _⟩
        · exact .inl h
        · exact .inr ⟨g, cap, h1, h2, h3⟩
      have HR2 := ahid (And.intro hHR2 hlb)
      have HT6 := ahid (And.intro (HT5.out.1.keepb hb6) (HT5.out.2.trans (hb6.mono HT5.out.2.size)))
      have HRa6 := ahid (HR1.out.1.keepb hb6)
      have hLn : L.length ≤ 60 * 1002 := by have := HTT.out.2.1.len; omega
      have hLL : (((more.map It.put ++ L).length : Nat) : Int) = (more.length : Int) + (L.length : Int) := by simp
      have hla0 : la = if wordsE M 0 L = 0 then wordsL M 0 L else [] := HR1.out.2
      clear hob hlb hb6 hHR2
      subst hn5
      by_cases he : wordsE M 0 L = 0
      · rw [if_pos he] at hla0
        have hlb0 : lb = more.map encS ++ la := by rw [HR2.out.2, if_pos he, (words_behind more L M).2, hla0]
        have hlal : la.length = L.length := by rw [hla0, wordsL_len]
        have hlbl : lb.length = more.length + la.length := by rw [hlb0]; simp
        have HLB := ahid hlb0
        rw [he]
        clear he hla0 hlb0
        rcases hshape with ⟨rfl, hz⟩ | ⟨g, cap, rfl, hc1, hc2⟩
        · have hm0 : more.length = 0 := by omega
          have hl0 : la.length = 0 := by omega
          have hLz : L.length = 0 := by omega
          rw [hm0, hLz] at hLL
          have HMZ := ahid hm0
          have hra := HRa6.out
          rw [hl0] at hra
          have hsm := same_any w6 (.slice none 0 0) _ la la (⟨by omega, none, 0, by rw [hl0], fun h => by omega⟩) hra
          rw [decide_eq_true rfl] at hsm
          have HSm := ahid hsm
          clear hsm hra
          go_wp2_with fail
          refine HSm.out.mono ?_
          rintro e w7 ⟨rfl, hb7⟩
          have HT7 := ahid (And.intro (HT6.out.1.keepb hb7) (HT6.out.2.trans (hb7.mono HT6.out.2.size)))
          clear hb7 HT6
          go_wp2_with fail
          (with_reducible refine (alen_made w7 pb mb svb Kb _ _ HT7.out.1.B).mono ?_)
          rintro e w' ⟨rfl, rfl⟩
          rw [hLL]
          go_wp2_with fail
          (with_reducible refine (alen_made w7 pa ma sva Ka _ _ HT7.out.1.A).mono ?_)
          rintro e w' ⟨rfl, rfl⟩
          have hs1 : IntKind.i64.wrap ((more.length : Int) + (L.length : Int)) = (more.length : Int) + (L.length : Int) := IntWalk.i64_in _ (by omega)
          go_wp2_with fail
          refine (ahead_any7 w7 (HT.out.keep HT7.out.2)).mono ?_
          rintro e w8 ⟨rfl, hb8⟩
          have HB8 := ahid (abt HT7.out.2 hb8)
          clear hb8
          go_wp2_with fail
          go_ret
          exact ⟨rfl, HB8.out⟩
        · unfold maxLen at hc2
          have hs0 : IntKind.i64.wrap ((more.length : Int) + (L.length : Int)) = (more.length : Int) + (L.length : Int) := IntWalk.i64_in _ (by omega)
          have hread := HR2.out.1
          have HRD := ahid hread
          have HLA := ahid hlal
          have HLBL := ahid hlbl
          rw [hlbl] at hc1 ⊢
          rw [hlal] at hc1
          clear hread hlbl
          by_cases hcap : cap = more.length
          · have hra := HRa6.out
            rw [HLA.out] at hra
            have hsm := same_any w6 (.slice (some ⟨g, 0, none⟩) L.length 0) _ la la (by rw [← HLA.out]; exact ⟨by unfold maxLen; have := HLA.out; omega, _, 0, rfl, fun h => by have := HLA.out; omega⟩) hra
            rw [decide_eq_true rfl] at hsm
            have HSm := ahid hsm
            clear hsm hra
            go_wp2_with fail
            refine HSm.out.mono ?_
            rintro e w7 ⟨rfl, hb7⟩
            have HT7 := ahid (And.intro (HT6.out.1.keepb hb7) (HT6.out.2.trans (hb7.mono HT6.out.2.size)))
            clear hb7 HT6
            go_wp2_with fail
            (with_reducible refine (alen_made w7 pb mb svb Kb _ _ HT7.out.1.B).mono ?_)
            rintro e w' ⟨rfl, rfl⟩
            rw [hLL]
            go_wp2_with fail
            (with_reducible refine (alen_made w7 pa ma sva Ka _ _ HT7.out.1.A).mono ?_)
            rintro e w' ⟨rfl, rfl⟩
            have hs1 : IntKind.i64.wrap ((more.length : Int) + (L.length : Int)) = (more.length : Int) + (L.length : Int) := IntWalk.i64_in _ (by omega)
            go_wp2_with fail
            refine (ahead_any7 w7 (HT.out.keep HT7.out.2)).mono ?_
            rintro e w8 ⟨rfl, hb8⟩
            have HB8 := ahid (abt HT7.out.2 hb8)
            clear hb8
            go_wp2_with fail
            go_ret
            exact ⟨rfl, HB8.out⟩
          · have hra := HRa6.out
            rw [HLA.out] at hra
            have hsm := same_any w6 (.slice (some ⟨g, more.length, none⟩) L.length (cap - more.length)) _ la la (by rw [← HLA.out]; exact reads_drop HRD.out HLB.out (by simp)) hra
            rw [decide_eq_true rfl] at hsm
            have HSm := ahid hsm
            clear hsm hra
            go_wp2_with fail
            refine HSm.out.mono ?_
            rintro e w7 ⟨rfl, hb7⟩
            have HT7 := ahid (And.intro (HT6.out.1.keepb hb7) (HT6.out.2.trans (hb7.mono HT6.out.2.size)))
            clear hb7 HT6
            go_wp2_with fail
            (with_reducible refine (alen_made w7 pb mb svb Kb _ _ HT7.out.1.B).mono ?_)
            rintro e w' ⟨rfl, rfl⟩
            rw [hLL]
            go_wp2_with fail
            (with_reducible refine (alen_made w7 pa ma sva Ka _ _ HT7.out.1.A).mono ?_)
            rintro e w' ⟨rfl, rfl⟩
            have hs1 : IntKind.i64.wrap ((more.length : Int) + (L.length : Int)) = (more.length : Int) + (L.length : Int) := IntWalk.i64_in _ (by omega)
            go_wp2_with fail
            refine (ahead_any7 w7 (HT.out.keep HT7.out.2)).mono ?_
            rintro e w8 ⟨rfl, hb8⟩
            have HB8 := ahid (abt HT7.out.2 hb8)
            clear hb8
            go_wp2_with fail
            go_ret
            exact ⟨rfl, HB8.out⟩
      · have heb : (wordsE M 0 L == 0) = false := by simpa using he
        have w7e : ∃ w7 : World, w7 = w6 := ⟨w6, rfl⟩
        obtain ⟨w7, rfl⟩ := w7e
        have HT7 := HT6
        generalize wordsE M 0 L = q at *
        rcases hshape with ⟨rfl, _⟩ | ⟨g, cap, rfl, _⟩
        all_goals go_wp2_with fail
        all_goals
          (with_reducible refine (alen_made w7 pb mb svb Kb _ _ HT7.out.1.B).mono ?_)
          rintro e w' ⟨rfl, rfl⟩
          rw [hLL]
          go_wp2_with fail
          (with_reducible refine (alen_made w7 pa ma sva Ka _ _ HT7.out.1.A).mono ?_)
          rintro e w' ⟨rfl, rfl⟩
          have hs1 : IntKind.i64.wrap ((more.length : Int) + (L.length : Int)) = (more.length : Int) + (L.length : Int) := IntWalk.i64_in _ (by omega)
          go_wp2_with fail
          refine (ahead_any7 w7 (HT.out.keep HT7.out.2)).mono ?_
          rintro e w8 ⟨rfl, hb8⟩
          have HB8 := ahid (abt HT7.out.2 hb8)
          clear hb8
          go_wp2_with fail
          go_ret
          exact ⟨rfl, HB8.out⟩
theorem walk_AsmMoves (v : Value) (l : List Actx) (p2 : Option Addr) (c2 : Nat) (more : List Ix) (w : World) (ht : Tab w) (h : ActsIn w v l) (hm : InsIn w (.slice p2 more.length c2) more) :
    Calls Tryd.prog 3 #[v, .slice p2 more.length c2] w fun e w' => e = .returned (.bool true) ∧ Below w.heap.size w w' := by
  cases hg : greatB l with
  | true => exact moves_great v l _ more w ht h ⟨_, _, rfl⟩ (.inl hg)
  | false =>
    by_cases h60 : 60 < more.length
    · exact moves_great v l _ more w ht h ⟨_, _, rfl⟩ (.inr h60)
    · by_cases hmay : ∀ x ∈ more, mayP x
      · exact moves_yes v l p2 c2 more w ht h hm hg (by omega) hmay
      · exact moves_no v l p2 c2 more w ht h hm hg (by omega) hmay
end Go.Proofs.YtimhpohlaagbpaaDoor
