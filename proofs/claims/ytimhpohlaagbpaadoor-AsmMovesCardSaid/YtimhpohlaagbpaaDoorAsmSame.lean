/- The walks of muntinlaw07.same and great. -/
import Derived.Test.YtimhpohlaagbpaaDoorAsmDoes
namespace Go.Proofs.YtimhpohlaagbpaaDoor
open Go.RowKit Go.Maps
set_option linter.unusedVariables false
set_option linter.unusedSimpArgs false
theorem Reads32.keepb {a b : World} {v : Value} {l : List Int} (h : Reads32 a v l) (hb : Below a.heap.size a b) : Reads32 b v l := by
  obtain ⟨h1, p, c, rfl, h2⟩ := h
  refine ⟨h1, p, c, rfl, fun h0 => ?_⟩
  obtain ⟨g, o, rfl, h3⟩ := h2 h0
  exact ⟨g, o, rfl, fun k hk => (hb.cell (World.block_lt_of_cell? _ _ (h3 k hk))).trans (h3 k hk)⟩
theorem Reads32.shape' {w : World} {v : Value} {l : List Int} (h : Reads32 w v l) : ∃ p n c, v = .slice p n c := by obtain ⟨_, p, c, h, _⟩ := h; exact ⟨_, _, _, h⟩
theorem abt {a b c : World} (h : Below a.heap.size a b) (k : Below b.heap.size b c) : Below a.heap.size a c := h.trans (k.mono h.size)
/-- What is known of a list and the document's. -/
structure Sized (L : List It) (M : List (List UInt8 × Int)) : Prop where
  far : FarL L
  put : PutL L
  len : L.length < 4294967296
  mlen : M.length < 4294967296
  marks : ∀ nm t, look M nm = some t → 0 ≤ t ∧ t < 4294967296
set_option maxRecDepth 100000 in
set_option maxHeartbeats 2000000 in
theorem same_yes (w : World) (ht : Tab w) (p m : Nat) (sv : Value) (K : Nat → Prop) (L : List It) (M : List (List UInt8 × Int)) (hA : AsmAt w p sv m K L M) (lv mv : Value) (hq : ItemsAt w lv L) (hmq : MarksAt w mv M) (hS : Sized L M) (nm : ByteArray) (hnm : nm.size ≤ maxLen) :
    Calls Tryd.prog 15 #[.pointer (some ⟨p, 0, none⟩), .agg #[lv, mv], .string nm] w fun e w' => e = .returned (.bool true) ∧ Below w.heap.size w w' := by
  have hsl := hq.2
  obtain ⟨pl, nl, cl, rfl⟩ := hq.shape
  obtain ⟨pm, nm', cm, rfl⟩ := hmq.shape
  have hnl : nl = L.length := by
    rcases hsl with ⟨h, h0⟩ | ⟨g, cap, h, _⟩
    · cases h; omega
    · cases h; rfl
  subst hnl
  have hM : M.length ≤ maxLen := by have := hS.mlen; unfold maxLen; omega
  have HBW := ahid (show Below w.heap.size w (w.alloc (.cells #[.slice pl L.length cl, .slice pm nm' cm] 33)) from (Below.refl _ _).alloc (Nat.le_refl _) _)
  have HB0 := ahid (Box2.new w (.slice pl L.length cl) (.slice pm nm' cm) 33)
  have HF := ahid (fun W (hb : Below w.heap.size w W) => And.intro (ht.keep hb) (And.intro (hA.keep (Only.of_below (S := fun _ => False) hb) (fun _ _ h => h) (fun _ _ h => h)) (And.intro (hq.keep hb) (hmq.keep hb))))
  have HS := ahid hS
  clear ht hA hq hmq hsl hS
  go_enter Tryd.func15, Tryd.ntmps15
  go_wp2_with fail
  generalize w.alloc (.cells #[.slice pl L.length cl, .slice pm nm' cm] 33) = W0 at *
  obtain ⟨k1, k2, k3, k4⟩ := HF.out W0 HBW.out
  refine (awords_any W0 k1 p m sv K L M k2 HS.out.len HS.out.marks).mono ?_
  clear k1 k2 k3 k4
  rintro e W1 ⟨va, la, rfl, hla, hoa, hb1⟩
  have HR1 := ahid (Reads32.of_own hoa)
  obtain ⟨pa, na, ca, rfl⟩ := HR1.out.shape'
  have HB1 := ahid hb1
  have HW1 := ahid (abt HBW.out hb1)
  have HBX1 := ahid (HB0.out.keepB hb1 HB0.out.lt)
  have HLA := ahid hla
  clear hla hoa hb1
  obtain ⟨b0, b1, _, _⟩ := HBX1.out
  go_wp2_with fail
  obtain ⟨k1, k2, k3, k4⟩ := HF.out W1 HW1.out
  refine (rwords_any W1 _ pm nm' cm L M k3 k4 HS.out.far HS.out.put HS.out.len hM HS.out.marks).mono ?_
  clear k1 k2 k3 k4 b0 b1
  rintro e W2 ⟨vb, lb, rfl, hlb, hob, hb2⟩
  have HR2 := ahid (Reads32.of_own hob)
  obtain ⟨pb, nb, cb, rfl⟩ := HR2.out.shape'
  have HW2 := ahid (abt HW1.out hb2)
  have HR1' := ahid (HR1.out.keepb hb2)
  have HBX2 := ahid (HBX1.out.keepB hb2 HBX1.out.lt)
  have HLB := ahid (HLA.out.trans hlb.symm)
  clear hlb hob hb2 HR1 HBX1 HB1
  go_wp2_with fail
  obtain ⟨k1, k2, k3, k4⟩ := HF.out W2 HW2.out
  refine (aat_made W2 p m sv K L M k2 nm hnm).mono ?_
  clear k1 k2 k3 k4
  rintro e w' ⟨rfl, rfl⟩
  obtain ⟨b0, b1, _, _⟩ := HBX2.out
  go_wp2_with fail
  obtain ⟨k1, k2, k3, k4⟩ := HF.out W2 HW2.out
  refine (rat_any W2 _ _ M k4 nm hM).mono ?_
  clear k1 k2 k3 k4 b0 b1
  rintro e W3 ⟨rfl, hb3⟩
  have HW3 := ahid (abt HW2.out hb3)
  have HBX3 := ahid (HBX2.out.keepB hb3 HBX2.out.lt)
  have HSa : Hid (∀ W, Below W3.heap.size W3 W → Calls Tryd.prog 12 #[.slice pa na ca, .slice pb nb cb] W fun e w' => e = .returned (.bool true) ∧ Below W.heap.size W w') := ahid fun W hW => by
    have h := same_any W _ _ la lb ((HR1'.out.keepb hb3).keepb hW) ((HR2.out.keepb hb3).keepb hW)
    rw [decide_eq_true HLB.out] at h
    exact h
  have HLe := ahid (fun W (hb : Below w.heap.size w W) => alen_made W p m sv K L M (HF.out W hb).2.1)
  obtain ⟨b0, b1, _, _⟩ := HBX3.out
  clear hb3 HR1' HR2 HBX2
  generalize wordsE M 0 L = ee
  generalize atN M nm = an
  generalize atE M nm = ae
  go_wp2_with fail
  have hlt := HBX3.out.lt
  go_region_held3 (fun w' => w'.cell? ⟨w.heap.size, 0, none⟩ = some (.slice pl L.length cl)) (first | exact b0 | exact d0)
    (first
      | (go_at_call 12; refine (HSa.out _ ((Below.refl _ _).drew)).mono ?_; rintro e W4 ⟨rfl, hb40⟩; have hb4 : Below W3.heap.size W3 W4 := ((Below.refl W3.heap.size W3).drew).trans hb40; have d0 := ((acell hb4).1 _ _ hlt).trans b0)
      | (go_at_call 13; refine (HLe.out _ (abt HW3.out hb4)).mono ?_; rintro e w' ⟨rfl, rfl⟩))
  all_goals
    go_wp2_with fail
    go_ret
    exact ⟨rfl, abt HW3.out hb4⟩
/-- An act that lies at a place. -/
structure Act7At (w : World) (b o : Nat) (x : Actx) (xv : Value) : Prop where
  c0 : w.cell? ⟨b, o, none⟩ = some (.int .u8 x.what)
  c1 : w.cell? ⟨b, o + 1, none⟩ = some xv
  c2 : w.cell? ⟨b, o + 2, none⟩ = some (.string x.nm)
  c3 : w.cell? ⟨b, o + 3, none⟩ = some (.int .u8 x.cond)
  c4 : w.cell? ⟨b, o + 4, none⟩ = some (.int .u32 x.wd)
  b0 : 0 ≤ x.what ∧ x.what < 256
  b1 : 0 ≤ x.cond ∧ x.cond < 256
  b2 : 0 ≤ x.wd ∧ x.wd < 4294967296
  nm : x.nm.size ≤ maxLen
  ins : InsIn w xv x.l
theorem Act7At.keep {a b : World} {k o : Nat} {x : Actx} {xv : Value} (h : Act7At a k o x xv) (hb : Below a.heap.size a b) : Act7At b k o x xv := by
  have hl := World.block_lt_of_cell? _ _ h.c0
  exact ⟨(hb.cell (p := ⟨k, o, none⟩) hl).trans h.c0, (hb.cell (p := ⟨k, o + 1, none⟩) hl).trans h.c1, (hb.cell (p := ⟨k, o + 2, none⟩) hl).trans h.c2, (hb.cell (p := ⟨k, o + 3, none⟩) hl).trans h.c3, (hb.cell (p := ⟨k, o + 4, none⟩) hl).trans h.c4, h.b0, h.b1, h.b2, h.nm, h.ins.keepb hb⟩
/-- A slice of acts, as it came in. -/
def ActsIn (w : World) (v : Value) (l : List Actx) : Prop :=
  l.length ≤ 140737488355328 ∧ (∀ x ∈ l, x.l.length ≤ 140737488355328 ∧ x.nm.size ≤ 140737488355328) ∧ ∃ p c b o, v = .slice p l.length c ∧ (0 < l.length → p = some ⟨b, o, none⟩) ∧ ∀ k x, l[k]? = some x → ∃ xv, Act7At w b (o + k * 5) x xv
def greatN (l : List Actx) : Nat := (l.map fun x => x.l.length + x.nm.size).sum
theorem greatN_take (l : List Actx) (k : Nat) (x : Actx) (h : l[k]? = some x) : greatN (l.take (k + 1)) = greatN (l.take k) + (x.l.length + x.nm.size) := by
  rw [(take_get l k x h).1]; simp [greatN]
theorem greatN_le (l : List Actx) (h : ∀ x ∈ l, x.l.length ≤ 140737488355328 ∧ x.nm.size ≤ 140737488355328) : greatN l ≤ l.length * 281474976710656 := by
  induction l with
  | nil => simp [greatN]
  | cons x l ih =>
    have h1 := h x (by simp)
    have h2 := ih (fun y hy => h y (by simp [hy]))
    simp only [greatN, List.map_cons, List.sum_cons, List.length_cons] at h2 ⊢
    omega
theorem greatN_mem (l : List Actx) (x : Actx) (h : x ∈ l) : x.l.length + x.nm.size ≤ greatN l := by
  induction l with
  | nil => simp at h
  | cons y l ih =>
    simp only [greatN, List.map_cons, List.sum_cons] at ih ⊢
    rcases List.mem_cons.1 h with rfl | h
    · omega
    · have := ih h; omega
def greatB (l : List Actx) : Bool := decide (60 < l.length ∨ 1000 < greatN l)
set_option maxRecDepth 100000 in
set_option maxHeartbeats 1000000 in
theorem great_any (w : World) (v : Value) (l : List Actx) (h : ActsIn w v l) :
    Calls Tryd.prog 6 #[v] w fun e w' => e = .returned (.bool (greatB l)) ∧ Below w.heap.size w w' := by
  obtain ⟨hl, hb, p, c, b, o, rfl, hp, hc⟩ := h
  have HB := ahid hb
  have HP := ahid hp
  have HC := ahid hc
  clear hb hp hc
  go_enter Tryd.func6, Tryd.ntmps6
  go_wp2_with fail
  go_loopw [3, 4] (fun n i wr => ∃ k : Nat, k ≤ l.length ∧ i = .int .i64 k ∧ (∃ z : Int, n = .int .i64 z ∧ (k ≤ 60 → z = (greatN (l.take k) : Nat))) ∧ (∃ d, wr = w.drewN d)) (fun _ i _ => l.length - (intOf i).toNat)
  case atStart => exact ⟨0, Nat.zero_le _, rfl, ⟨0, rfl, fun _ => rfl⟩, 0, rfl⟩
  case round =>
    obtain ⟨k, hk, rfl, ⟨z, rfl, hz⟩, d, rfl⟩ := hrel
    by_cases hlt : k < l.length
    · obtain ⟨x, hx⟩ : ∃ x, l[k]? = some x := ⟨_, List.getElem?_eq_getElem hlt⟩
      obtain rfl := HP.out (by omega)
      obtain ⟨xv, ha⟩ := HC.out k x hx
      obtain ⟨px, nx, cx, rfl, hnx⟩ : ∃ p n c, xv = .slice p n c ∧ n = x.l.length := by obtain ⟨_, p, c, _, _, h, _⟩ := ha.ins; exact ⟨_, _, _, h, rfl⟩
      subst hnx
      have hg := greatN_take l k x hx
      have hxb := HB.out x (List.mem_of_getElem? hx)
      have hle := greatN_le (l.take k) (fun y hy => HB.out y (List.mem_of_mem_take hy))
      have hlk : (l.take k).length = k := by rw [List.length_take]; omega
      have hkl : (k : Int) < l.length := by omega
      have c1 := ha.c1
      have c2 := ha.c2
      rw [hlk] at hle
      have HG := ahid hg
      clear hx ha
      by_cases h60 : k < 60
      · have hzk := hz (by omega)
        have hzb : 0 ≤ z ∧ z ≤ 60 * 281474976710656 := by omega
        have hw1 : IntKind.i64.wrap (z + (x.l.length : Int)) = z + (x.l.length : Int) := IntWalk.i64_in _ (by omega)
        have hw2 : IntKind.i64.wrap (z + (x.l.length : Int) + (x.nm.size : Int)) = z + (x.l.length : Int) + (x.nm.size : Int) := IntWalk.i64_in _ (by omega)
        have HZ := ahid hzk
        clear hz hg hxb hle hlk hzk hzb h60
        generalize x.l.length = nl at *
        generalize hns : x.nm.size = ns at *
        generalize greatN (l.take k) = gk at *
        go_wp2_with fail
        go_quiet (fail)
        go_wp2_with fail
        exact ⟨⟨k + 1, by omega, by go_num, ⟨_, rfl, fun _ => by rw [HG.out, HZ.out]; omega⟩, _, rfl⟩, by simp [intOf] <;> omega⟩
      · clear hz hg hxb hle hlk
        generalize x.l.length = nl at *
        generalize hns : x.nm.size = ns at *
        go_wp2_with fail
        go_quiet (fail)
        go_wp2_with fail
        exact ⟨⟨k + 1, by omega, by go_num, ⟨_, rfl, fun h => by omega⟩, _, rfl⟩, by simp [intOf] <;> omega⟩
    · obtain rfl : k = l.length := by omega
      have hkl : ¬ ((l.length : Int) < l.length) := by omega
      rw [List.take_length] at hz
      have hG : greatB l = decide (60 < l.length ∨ 1000 < greatN l) := rfl
      generalize greatN l = gl at *
      by_cases h1 : 60 < l.length
      · clear hz
        have t1 : (60 : Int) < l.length := by omega
        have HG := ahid (hG.trans (decide_eq_true (.inl h1)))
        clear hG h1
        go_wp2_with fail
        go_ret
        exact ⟨by rw [HG.out]; rfl, below_drewN (Below.refl _ _) d⟩
      · obtain rfl := hz (by omega)
        clear hz
        have t1 : ¬ (60 : Int) < l.length := by omega
        by_cases h2 : 1000 < gl
        · have t2 : (1000 : Int) < gl := by omega
          have HG := ahid (hG.trans (decide_eq_true (.inr h2)))
          clear hG h1 h2
          go_wp2_with fail
          go_ret
          exact ⟨by rw [HG.out]; rfl, below_drewN (Below.refl _ _) d⟩
        · have t2 : ¬ (1000 : Int) < gl := by omega
          have HG := ahid (hG.trans (decide_eq_false (by omega)))
          clear hG h1 h2
          go_wp2_with fail
          go_ret
          exact ⟨by rw [HG.out]; rfl, below_drewN (Below.refl _ _) d⟩
end Go.Proofs.YtimhpohlaagbpaaDoor
