/- The walk of muntinlaw07.head: lists whose words the document fixes; three lists side by side. -/
import Derived.Test.YtgicenbjdadakaaDoorAsmSame
namespace Go.Proofs.YtgicenbjdadakaaDoor
open Go.RowKit Go.Maps
set_option linter.unusedVariables false
set_option linter.unusedSimpArgs false
/-- A list whose blocks are of S, none of them elder than w0. -/
structure Lst (w0 : Nat) (w : World) (p : Nat) (S : Nat → Prop) (L : List It) (M : List (List UInt8 × Int)) : Prop where
  ex : ∃ sv m K, AsmAt w p sv m K L M ∧ (∀ k, Own p sv m k → S k) ∧ (∀ k, K k → S k)
  lo : ∀ k, S k → w0 ≤ k ∧ k < w.heap.size
theorem AsmAt.ownlt {w : World} {p m : Nat} {sv : Value} {K : Nat → Prop} {L : List It} {M : List (List UInt8 × Int)} (h : AsmAt w p sv m K L M) : ∀ k, Own p sv m k → k < w.heap.size := by
  have hbl := h.blocks
  rintro k (rfl | h | rfl)
  · exact hbl.1
  · exact hbl.2.2 k h
  · exact hbl.2.1
theorem Lst.keep {w0 : Nat} {w w2 : World} {p : Nat} {S T : Nat → Prop} {L : List It} {M : List (List UInt8 × Int)} (h : Lst w0 w p T L M) (o : Only S w w2) (hd : ∀ k, T k → ¬ S k) : Lst w0 w2 p T L M := by
  obtain ⟨⟨sv, m, K, hA, hO, hK⟩, hlo⟩ := h
  exact ⟨⟨sv, m, K, hA.keep o (fun k hk => hd k (hO k hk)) (fun k hk => hd k (hK k hk)), hO, hK⟩, fun k hk => ⟨(hlo k hk).1, Nat.lt_of_lt_of_le (hlo k hk).2 o.size⟩⟩
theorem Lst.keepb {w0 : Nat} {w w2 : World} {p : Nat} {T : Nat → Prop} {L : List It} {M : List (List UInt8 × Int)} (h : Lst w0 w p T L M) (hb : Below w.heap.size w w2) : Lst w0 w2 p T L M := h.keep (Only.of_below (S := fun _ => False) hb) (fun _ _ h => h)
theorem Lst.to {w0 : Nat} {w w2 : World} {p : Nat} {S : Nat → Prop} {L L' : List It} {M M' : List (List UInt8 × Int)} {sv : Value} {m : Nat} {K : Nat → Prop} (h : Lst w0 w p S L M) (hw : w0 ≤ w.heap.size) (hO : ∀ k, Own p sv m k → S k) (hK : ∀ k, K k → S k) (hst : StepTo w p sv m K L' M' w2) :
    ∃ S', Lst w0 w2 p S' L' M' ∧ Only S w w2 ∧ (∀ k, S' k → S k ∨ w.heap.size ≤ k) := by
  obtain ⟨v', K', g1, g2, g3, g4⟩ := hst
  refine ⟨fun k => (Own p v' m k ∨ K' k) ∧ k < w2.heap.size, ⟨⟨v', m, _, g1.trim, fun k hk => ⟨.inl hk, g1.ownlt k hk⟩, fun k hk => ⟨.inr hk.1, hk.2⟩⟩, ?_⟩, g2.mono (fun k _ hk => hO k hk), ?_⟩
  · intro k hk
    refine ⟨?_, hk.2⟩
    rcases Nat.lt_or_ge k w.heap.size with hl | hl
    · rcases hk.1 with h1 | h1
      · exact (h.lo k (hO k (g3 k hl h1))).1
      · exact (h.lo k (hK k (g4 k hl h1))).1
    · omega
  · intro k hk
    rcases Nat.lt_or_ge k w.heap.size with hl | hl
    · rcases hk.1 with h1 | h1
      · exact .inl (hO k (g3 k hl h1))
      · exact .inl (hK k (g4 k hl h1))
    · exact .inr hl
theorem dis_step {w : World} {S S' T : Nat → Prop} (hd : ∀ k, S k → ¬ T k) (hS : ∀ k, S' k → S k ∨ w.heap.size ≤ k) (hT : ∀ k, T k → k < w.heap.size) : ∀ k, S' k → ¬ T k := by
  intro k hk ht
  rcases hS k hk with h | h
  · exact hd k h ht
  · have := hT k ht; omega
theorem dis_comm {S T : Nat → Prop} (hd : ∀ k, S k → ¬ T k) : ∀ k, T k → ¬ S k := fun k ht hs => hd k hs ht
theorem Only.lower {S : Nat → Prop} {w0 w w2 : World} (hb : Below w0.heap.size w0 w) (o : Only S w w2) (hs : ∀ k, S k → w0.heap.size ≤ k) : Below w0.heap.size w0 w2 :=
  hb.trans (o.below hb.size (fun k hk hh => by have := hs k hh; omega))
theorem new_lst (w0 w : World) (hb : Below w0.heap.size w0 w) : Calls Tryd.prog 5 #[] w fun e w' => ∃ p S, e = .returned (.pointer (some ⟨p, 0, none⟩)) ∧ Lst w0.heap.size w' p S [] [] ∧ (∀ k, S k → w.heap.size ≤ k) ∧ Below w.heap.size w w' := by
  refine (anew_any w).mono ?_
  rintro e w' ⟨p, m, rfl, hp, hm, hA, hB⟩
  have h1 := hb.size
  have h2 := hB.size
  refine ⟨p, fun k => Own p (.slice none 0 0) m k, rfl, ⟨⟨_, m, _, hA, fun k h => h, fun k h => h.elim⟩, fun k hk => ⟨?_, hA.ownlt k hk⟩⟩, ?_, hB⟩
  · rcases hk with rfl | h | rfl
    · omega
    · simp [Value.ownBlock] at h
    · omega
  · rintro k (rfl | h | rfl)
    · exact hp
    · simp [Value.ownBlock] at h
    · exact hm
def La1 : List It := putL [] (partsS 1 5)
def La2 : List It := putL La1 (partsS 1 4294967295)
def La3 : List It := putL La2 (partsS 1 305419896)
def La4 : List It := putL La3 (partsS 1 32768)
def nmx : ByteArray := ⟨#[120]⟩
def nmy : ByteArray := ⟨#[121]⟩
def Lb1 : List It := jumpL [] 17 0 nmx
def Lb2 : List It := putL Lb1 [⟨32, 0, 0, 0, false, 0⟩]
def Mb1 : List (List UInt8 × Int) := markM [] nmx Lb2.length
def Mb2 : List (List UInt8 × Int) := markM Mb1 nmx Lb2.length
def Lc1 : List It := jumpL [] 18 0 nmy
theorem la_len : La1.length = 1 ∧ La2.length = 2 ∧ La3.length = 4 ∧ La4.length = 5 ∧ Lb1.length = 1 ∧ Lb2.length = 2 ∧ Lc1.length = 1 ∧ Mb1.length = 1 ∧ Mb2.length = 1 := by decide
theorem la_words : wordsE [] 0 La4 = 0 ∧ wordsL [] 0 La4 = [69238789, 69271551, 1008879242, 471959160, 1008730128] := by decide
theorem lb_words : wordsE Mb2 0 Lb2 = 0 ∧ wordsL Mb2 0 Lb2 = [1140850690, 2147483648] := by decide
theorem lc_words : wordsE [] 0 Lc1 = 7 := by decide
theorem lb_marks : markE [] nmx = 0 ∧ markE Mb1 nmx = 9 ∧ atN Mb2 nmx = 2 ∧ atE Mb2 nmx = 0 := by decide
theorem look_nil (nm : List UInt8) (t : Int) : look [] nm = some t → 0 ≤ t ∧ t < 4294967296 := by intro h; cases h
theorem mb_look (nm : List UInt8) (t : Int) : look Mb2 nm = some t → 0 ≤ t ∧ t < 4294967296 := by
  have h : Mb2 = [([120], 2)] := by decide
  rw [h]
  unfold look
  intro h2
  simp only [List.find?_cons, List.find?_nil] at h2
  split at h2
  · cases h2; exact ⟨by decide, by decide⟩
  · cases h2
/-- The table, and that it lies below. -/
structure TabLo (w0 : Nat) (w : World) : Prop where
  tab : Tab w
  lo : 0 < w0
theorem TabLo.start {w0 w : World} (h : Tab w0) (hb : Below w0.heap.size w0 w) : TabLo w0.heap.size w := ⟨h.keep hb, World.block_lt_of_cell? _ _ (h 0 (by omega))⟩
theorem TabLo.keepO {w0 : Nat} {S : Nat → Prop} {w w2 : World} (h : TabLo w0 w) (o : Only S w w2) (hs : ∀ k, S k → w0 ≤ k) : TabLo w0 w2 :=
  ⟨fun i hi => (o.cell (p := ⟨0, i, none⟩) (World.block_lt_of_cell? _ _ (h.tab i hi)) (fun hk => by have h1 : w0 ≤ 0 := hs _ hk; have := h.lo; omega)).trans (h.tab i hi), h.lo⟩
theorem TabLo.keepb {w0 : Nat} {w w2 : World} (h : TabLo w0 w) (hb : Below w.heap.size w w2) : TabLo w0 w2 := ⟨h.tab.keep hb, h.lo⟩
set_option maxRecDepth 100000 in
set_option maxHeartbeats 4000000 in
theorem ahead_any7 (w : World) (ht : Tab w) : Calls Tryd.prog 22 #[] w fun e w' => e = .returned (.bool true) ∧ Below w.heap.size w w' := by
  have T0 := ahid ht
  clear ht
  go_enter Tryd.func22, Tryd.ntmps22
  go_wp2_with fail
  refine (new_lst w w (Below.refl _ _)).mono ?_
  rintro e w1 ⟨pa, Sa, rfl, la, ha, hb⟩
  have B := ahid hb
  have A := ahid la
  clear hb la ha
  go_wp2_with fail
  refine (new_lst w w1 B.out).mono ?_
  rintro e w2 ⟨pb, Sb, rfl, lb, hbb, hb⟩
  have Dab := ahid (show ∀ k, Sa k → ¬ Sb k from fun k h1 h2 => by have := (A.out.lo k h1).2; have := hbb k h2; omega)
  replace A := ahid (A.out.keepb hb)
  have Bl := ahid lb
  replace B := ahid (abt B.out hb)
  clear hb lb hbb
  go_wp2_with fail
  refine (new_lst w w2 B.out).mono ?_
  rintro e w3 ⟨pc, Sc, rfl, lc, hcc, hb⟩
  have Dac := ahid (show ∀ k, Sa k → ¬ Sc k from fun k h1 h2 => by have := (A.out.lo k h1).2; have := hcc k h2; omega)
  have Dbc := ahid (show ∀ k, Sb k → ¬ Sc k from fun k h1 h2 => by have := (Bl.out.lo k h1).2; have := hcc k h2; omega)
  replace A := ahid (A.out.keepb hb)
  replace Bl := ahid (Bl.out.keepb hb)
  have C := ahid lc
  replace B := ahid (abt B.out hb)
  clear hb lc hcc
  have T := ahid (TabLo.start T0.out B.out)
  clear T0
  go_wp2_with fail
  obtain ⟨sv, m, K, hA, hO, hK⟩ := A.out.ex
  refine (aconst_any _ T.out.tab pa m sv K [] [] hA 1 5 (by omega) (by omega) (by omega) (by omega) (by simp)).mono ?_
  intro e w9 hh
  obtain ⟨rfl, hst⟩ := put_step hA hh
  obtain ⟨S9, l9, o9, hs9⟩ := A.out.to B.out.size hO hK hst
  have E1 := ahid (dis_step (Dab.out) hs9 (fun k h => (Bl.out.lo k h).2))
  have E2 := ahid (dis_step (Dac.out) hs9 (fun k h => (C.out.lo k h).2))
  replace Bl := ahid (Bl.out.keep o9 (dis_comm Dab.out))
  replace C := ahid (C.out.keep o9 (dis_comm Dac.out))
  replace T := ahid (T.out.keepO o9 (fun k h => (A.out.lo k h).1))
  replace B := ahid (Only.lower B.out o9 (fun k h => (A.out.lo k h).1))
  replace A := ahid (show Lst w.heap.size w9 pa S9 La1 [] from l9)
  replace Dab := ahid (E1.out)
  replace Dac := ahid (E2.out)
  clear hst l9 o9 hs9 E1 E2 hA hO hK
  try clear hh
  try clear hc
  go_wp2_with fail
  obtain ⟨sv, m, K, hA, hO, hK⟩ := A.out.ex
  refine (aconst_any _ T.out.tab pa m sv K La1 [] hA 1 4294967295 (by omega) (by omega) (by omega) (by omega) (by rw [la_len.1]; omega)).mono ?_
  intro e w9 hh
  obtain ⟨rfl, hst⟩ := put_step hA hh
  obtain ⟨S9, l9, o9, hs9⟩ := A.out.to B.out.size hO hK hst
  have E1 := ahid (dis_step (Dab.out) hs9 (fun k h => (Bl.out.lo k h).2))
  have E2 := ahid (dis_step (Dac.out) hs9 (fun k h => (C.out.lo k h).2))
  replace Bl := ahid (Bl.out.keep o9 (dis_comm Dab.out))
  replace C := ahid (C.out.keep o9 (dis_comm Dac.out))
  replace T := ahid (T.out.keepO o9 (fun k h => (A.out.lo k h).1))
  replace B := ahid (Only.lower B.out o9 (fun k h => (A.out.lo k h).1))
  replace A := ahid (show Lst w.heap.size w9 pa S9 La2 [] from l9)
  replace Dab := ahid (E1.out)
  replace Dac := ahid (E2.out)
  clear hst l9 o9 hs9 E1 E2 hA hO hK
  try clear hh
  try clear hc
  go_wp2_with fail
  obtain ⟨sv, m, K, hA, hO, hK⟩ := A.out.ex
  refine (aconst_any _ T.out.tab pa m sv K La2 [] hA 1 305419896 (by omega) (by omega) (by omega) (by omega) (by rw [la_len.2.1]; omega)).mono ?_
  intro e w9 hh
  obtain ⟨rfl, hst⟩ := put_step hA hh
  obtain ⟨S9, l9, o9, hs9⟩ := A.out.to B.out.size hO hK hst
  have E1 := ahid (dis_step (Dab.out) hs9 (fun k h => (Bl.out.lo k h).2))
  have E2 := ahid (dis_step (Dac.out) hs9 (fun k h => (C.out.lo k h).2))
  replace Bl := ahid (Bl.out.keep o9 (dis_comm Dab.out))
  replace C := ahid (C.out.keep o9 (dis_comm Dac.out))
  replace T := ahid (T.out.keepO o9 (fun k h => (A.out.lo k h).1))
  replace B := ahid (Only.lower B.out o9 (fun k h => (A.out.lo k h).1))
  replace A := ahid (show Lst w.heap.size w9 pa S9 La3 [] from l9)
  replace Dab := ahid (E1.out)
  replace Dac := ahid (E2.out)
  clear hst l9 o9 hs9 E1 E2 hA hO hK
  try clear hh
  try clear hc
  go_wp2_with fail
  obtain ⟨sv, m, K, hA, hO, hK⟩ := A.out.ex
  refine (aconst_any _ T.out.tab pa m sv K La3 [] hA 1 32768 (by omega) (by omega) (by omega) (by omega) (by rw [la_len.2.2.1]; omega)).mono ?_
  intro e w9 hh
  obtain ⟨rfl, hst⟩ := put_step hA hh
  obtain ⟨S9, l9, o9, hs9⟩ := A.out.to B.out.size hO hK hst
  have E1 := ahid (dis_step (Dab.out) hs9 (fun k h => (Bl.out.lo k h).2))
  have E2 := ahid (dis_step (Dac.out) hs9 (fun k h => (C.out.lo k h).2))
  replace Bl := ahid (Bl.out.keep o9 (dis_comm Dab.out))
  replace C := ahid (C.out.keep o9 (dis_comm Dac.out))
  replace T := ahid (T.out.keepO o9 (fun k h => (A.out.lo k h).1))
  replace B := ahid (Only.lower B.out o9 (fun k h => (A.out.lo k h).1))
  replace A := ahid (show Lst w.heap.size w9 pa S9 La4 [] from l9)
  replace Dab := ahid (E1.out)
  replace Dac := ahid (E2.out)
  clear hst l9 o9 hs9 E1 E2 hA hO hK
  try clear hh
  try clear hc
  go_wp2_with fail
  obtain ⟨sv, m, K, hA, hO, hK⟩ := Bl.out.ex
  refine (ajump_any _ T.out.tab pb m sv K [] [] hA 0 (by omega) (by omega) nmx (by decide) (by simp)).mono ?_
  intro e w9 hh
  obtain ⟨rfl, hst⟩ := far_step hA (jump_may (by omega)) hh
  obtain ⟨S9, l9, o9, hs9⟩ := Bl.out.to B.out.size hO hK hst
  have E1 := ahid (dis_step (dis_comm Dab.out) hs9 (fun k h => (A.out.lo k h).2))
  have E2 := ahid (dis_step (Dbc.out) hs9 (fun k h => (C.out.lo k h).2))
  replace A := ahid (A.out.keep o9 (Dab.out))
  replace C := ahid (C.out.keep o9 (dis_comm Dbc.out))
  replace T := ahid (T.out.keepO o9 (fun k h => (Bl.out.lo k h).1))
  replace B := ahid (Only.lower B.out o9 (fun k h => (Bl.out.lo k h).1))
  replace Bl := ahid (show Lst w.heap.size w9 pb S9 Lb1 [] from l9)
  replace Dab := ahid (dis_comm E1.out)
  replace Dbc := ahid (E2.out)
  clear hst l9 o9 hs9 E1 E2 hA hO hK
  try clear hh
  try clear hc
  go_wp2_with fail
  obtain ⟨sv, m, K, hA, hO, hK⟩ := Bl.out.ex
  refine (aput_any (w9.alloc (.cells #[.int .u8 32, .int .u8 0, .int .u8 0, .int .u8 0, .bool false, .int .i32 0] 55)) (T.out.keepb ((Below.refl _ _).alloc (Nat.le_refl _) _)).tab pb m sv K Lb1 [] (hA.keep (Only.of_below (S := fun _ => False) ((Below.refl _ _).alloc (Nat.le_refl _) _)) (fun _ _ h => h) (fun _ _ h => h)) _ [⟨32, 0, 0, 0, false, 0⟩] (InsIn.one (x := ⟨32, 0, 0, 0, false, 0⟩) (by intro y hy; simp only [List.mem_cons, List.not_mem_nil, or_false] at hy; subst hy; unfold Ix.bd; simp only; omega) w9) (by rw [la_len.2.2.2.2.1]; simp)).mono ?_
  intro e w9 hh
  obtain ⟨rfl, hst⟩ := put_step hA (hh.of_below ((Below.refl _ _).alloc (Nat.le_refl _) _))
  obtain ⟨S9, l9, o9, hs9⟩ := Bl.out.to B.out.size hO hK hst
  have E1 := ahid (dis_step (dis_comm Dab.out) hs9 (fun k h => (A.out.lo k h).2))
  have E2 := ahid (dis_step (Dbc.out) hs9 (fun k h => (C.out.lo k h).2))
  replace A := ahid (A.out.keep o9 (Dab.out))
  replace C := ahid (C.out.keep o9 (dis_comm Dbc.out))
  replace T := ahid (T.out.keepO o9 (fun k h => (Bl.out.lo k h).1))
  replace B := ahid (Only.lower B.out o9 (fun k h => (Bl.out.lo k h).1))
  replace Bl := ahid (show Lst w.heap.size w9 pb S9 Lb2 [] from l9)
  replace Dab := ahid (dis_comm E1.out)
  replace Dbc := ahid (E2.out)
  clear hst l9 o9 hs9 E1 E2 hA hO hK
  try clear hh
  try clear hc
  go_wp2_with fail
  obtain ⟨sv, m, K, hA, hO, hK⟩ := Bl.out.ex
  have hc := amark_step _ pb m sv K Lb2 [] hA nmx (by decide) (by simp [maxLen]) (by rw [la_len.2.2.2.2.2.1]; omega)
  rw [lb_marks.1] at hc
  refine (hc).mono ?_
  intro e w9 hh
  obtain ⟨rfl, hst⟩ := hh
  obtain ⟨S9, l9, o9, hs9⟩ := Bl.out.to B.out.size hO hK hst
  have E1 := ahid (dis_step (dis_comm Dab.out) hs9 (fun k h => (A.out.lo k h).2))
  have E2 := ahid (dis_step (Dbc.out) hs9 (fun k h => (C.out.lo k h).2))
  replace A := ahid (A.out.keep o9 (Dab.out))
  replace C := ahid (C.out.keep o9 (dis_comm Dbc.out))
  replace T := ahid (T.out.keepO o9 (fun k h => (Bl.out.lo k h).1))
  replace B := ahid (Only.lower B.out o9 (fun k h => (Bl.out.lo k h).1))
  replace Bl := ahid (show Lst w.heap.size w9 pb S9 Lb2 Mb1 from l9)
  replace Dab := ahid (dis_comm E1.out)
  replace Dbc := ahid (E2.out)
  clear hst l9 o9 hs9 E1 E2 hA hO hK
  try clear hh
  try clear hc
  go_wp2_with fail
  obtain ⟨sv, m, K, hA, hO, hK⟩ := Bl.out.ex
  have hc := amark_step _ pb m sv K Lb2 Mb1 hA nmx (by decide) (by rw [la_len.2.2.2.2.2.2.2.1]; simp [maxLen]) (by rw [la_len.2.2.2.2.2.1]; omega)
  rw [lb_marks.2.1] at hc
  refine (hc).mono ?_
  intro e w9 hh
  obtain ⟨rfl, hst⟩ := hh
  obtain ⟨S9, l9, o9, hs9⟩ := Bl.out.to B.out.size hO hK hst
  have E1 := ahid (dis_step (dis_comm Dab.out) hs9 (fun k h => (A.out.lo k h).2))
  have E2 := ahid (dis_step (Dbc.out) hs9 (fun k h => (C.out.lo k h).2))
  replace A := ahid (A.out.keep o9 (Dab.out))
  replace C := ahid (C.out.keep o9 (dis_comm Dbc.out))
  replace T := ahid (T.out.keepO o9 (fun k h => (Bl.out.lo k h).1))
  replace B := ahid (Only.lower B.out o9 (fun k h => (Bl.out.lo k h).1))
  replace Bl := ahid (show Lst w.heap.size w9 pb S9 Lb2 Mb2 from l9)
  replace Dab := ahid (dis_comm E1.out)
  replace Dbc := ahid (E2.out)
  clear hst l9 o9 hs9 E1 E2 hA hO hK
  try clear hh
  try clear hc
  go_wp2_with fail
  obtain ⟨sv, m, K, hA, hO, hK⟩ := C.out.ex
  refine (acall_any _ T.out.tab pc m sv K [] [] hA nmy (by decide) (by simp)).mono ?_
  intro e w9 hh
  obtain ⟨rfl, hst⟩ := far_step hA ⟨fun _ => by omega, fun _ => call_may⟩ hh
  obtain ⟨S9, l9, o9, hs9⟩ := C.out.to B.out.size hO hK hst
  have E1 := ahid (dis_step (dis_comm Dac.out) hs9 (fun k h => (A.out.lo k h).2))
  have E2 := ahid (dis_step (dis_comm Dbc.out) hs9 (fun k h => (Bl.out.lo k h).2))
  replace A := ahid (A.out.keep o9 (Dac.out))
  replace Bl := ahid (Bl.out.keep o9 (Dbc.out))
  replace T := ahid (T.out.keepO o9 (fun k h => (C.out.lo k h).1))
  replace B := ahid (Only.lower B.out o9 (fun k h => (C.out.lo k h).1))
  replace C := ahid (show Lst w.heap.size w9 pc S9 Lc1 [] from l9)
  replace Dac := ahid (dis_comm E1.out)
  replace Dbc := ahid (dis_comm E2.out)
  clear hst l9 o9 hs9 E1 E2 hA hO hK
  try clear hh
  try clear hc
  go_wp2_with fail
  obtain ⟨sv, m, K, hA, hO, hK⟩ := A.out.ex
  refine (awords_any _ T.out.tab pa m sv K La4 [] hA (by rw [la_len.2.2.2.1]; omega) (fun nm t => look_nil nm t)).mono ?_
  rintro e w9 ⟨va, la, rfl, hva, hova, hb⟩
  rw [la_words.1] at hva ⊢
  have Rva := ahid (And.intro (Reads32.of_own hova) hva)
  obtain ⟨pva, nva, cva, rfl⟩ := Rva.out.1.shape'
  replace A := ahid (A.out.keepb hb)
  replace Bl := ahid (Bl.out.keepb hb)
  replace C := ahid (C.out.keepb hb)
  replace T := ahid (T.out.keepb hb)
  replace B := ahid (abt B.out hb)
  have KA := ahid (Rva.out.1 : Reads32 w9 _ la)
  clear hA hO hK hova hb
  go_wp2_with fail
  obtain ⟨sv, m, K, hA, hO, hK⟩ := Bl.out.ex
  refine (awords_any _ T.out.tab pb m sv K Lb2 Mb2 hA (by rw [la_len.2.2.2.2.2.1]; omega) mb_look).mono ?_
  rintro e w9 ⟨vb, lb, rfl, hvb, hovb, hb⟩
  rw [lb_words.1] at hvb ⊢
  have Rvb := ahid (And.intro (Reads32.of_own hovb) hvb)
  obtain ⟨pvb, nvb, cvb, rfl⟩ := Rvb.out.1.shape'
  replace A := ahid (A.out.keepb hb)
  replace Bl := ahid (Bl.out.keepb hb)
  replace C := ahid (C.out.keepb hb)
  replace T := ahid (T.out.keepb hb)
  replace B := ahid (abt B.out hb)
  replace KA := ahid (KA.out.keepb hb)
  have KB := ahid (Rvb.out.1)
  clear hA hO hK hovb hb
  go_wp2_with fail
  obtain ⟨sv, m, K, hA, hO, hK⟩ := C.out.ex
  refine (awords_any _ T.out.tab pc m sv K Lc1 [] hA (by rw [la_len.2.2.2.2.2.2.1]; omega) (fun nm t => look_nil nm t)).mono ?_
  rintro e w9 ⟨vc, lc, rfl, hvc, hovc, hb⟩
  rw [lc_words] at hvc ⊢
  have Rvc := ahid (And.intro (Reads32.of_own hovc) hvc)
  obtain ⟨pvc, nvc, cvc, rfl⟩ := Rvc.out.1.shape'
  replace A := ahid (A.out.keepb hb)
  replace Bl := ahid (Bl.out.keepb hb)
  replace C := ahid (C.out.keepb hb)
  replace T := ahid (T.out.keepb hb)
  replace B := ahid (abt B.out hb)
  replace KA := ahid (KA.out.keepb hb)
  replace KB := ahid (KB.out.keepb hb)
  clear hA hO hK hovc hb
  go_wp2_with fail
  obtain ⟨sv, m, K, hA, hO, hK⟩ := Bl.out.ex
  have hc := aat_made _ pb m sv K Lb2 Mb2 hA nmx (by decide)
  rw [lb_marks.2.2.1, lb_marks.2.2.2] at hc
  refine hc.mono ?_
  clear hc hA hO hK
  rintro e w' ⟨rfl, rfl⟩
  have hla : la = [69238789, 69271551, 1008879242, 471959160, 1008730128] := by rw [Rva.out.2, if_pos (by trivial), la_words.2]
  have hlb : lb = [1140850690, 2147483648] := by rw [Rvb.out.2, if_pos (by trivial), lb_words.2]
  subst hla hlb
  clear hva hvb hvc
  go_wp2_with fail
  have hS1 := same_any (w9.alloc (.cells #[.int .u32 69238789, .int .u32 69271551, .int .u32 1008879242, .int .u32 471959160, .int .u32 1008730128] 40)) _ _ _ _ (KA.out.keepb ((Below.refl _ _).alloc (Nat.le_refl _) _)) (Reads32.of_own (l := [69238789, 69271551, 1008879242, 471959160, 1008730128]) (own_new w9 0 #[.int .u32 69238789, .int .u32 69271551, .int .u32 1008879242, .int .u32 471959160, .int .u32 1008730128] 40 5 1 rfl (by simp [maxLen]) (Nat.zero_le _)))
  refine hS1.mono ?_
  clear hS1
  rw [decide_eq_true rfl]
  rintro e w8 ⟨rfl, hb0⟩
  have hb := abt ((Below.refl w9.heap.size w9).alloc (Nat.le_refl _) _) hb0
  clear hb0
  replace KB := ahid (KB.out.keepb hb)
  replace C := ahid (C.out.keepb hb)
  replace B := ahid (abt B.out hb)
  clear hb
  go_wp2_with fail
  have hS1 := same_any (w8.alloc (.cells #[.int .u32 1140850690, .int .u32 2147483648] 40)) _ _ _ _ (KB.out.keepb ((Below.refl _ _).alloc (Nat.le_refl _) _)) (Reads32.of_own (l := [1140850690, 2147483648]) (own_new w8 0 #[.int .u32 1140850690, .int .u32 2147483648] 40 2 1 rfl (by simp [maxLen]) (Nat.zero_le _)))
  refine hS1.mono ?_
  clear hS1
  rw [decide_eq_true rfl]
  rintro e w7 ⟨rfl, hb0⟩
  have hb := abt ((Below.refl w8.heap.size w8).alloc (Nat.le_refl _) _) hb0
  clear hb0
  replace C := ahid (C.out.keepb hb)
  replace B := ahid (abt B.out hb)
  clear hb
  go_wp2_with fail
  obtain ⟨sv, m, K, hA, hO, hK⟩ := C.out.ex
  have hc := alen_made _ pc m sv K Lc1 [] hA
  rw [la_len.2.2.2.2.2.2.1] at hc
  refine hc.mono ?_
  clear hc hA hO hK
  rintro e w' ⟨rfl, rfl⟩
  go_wp2_with fail
  go_ret
  exact ⟨rfl, B.out⟩
end Go.Proofs.YtgicenbjdadakaaDoor
