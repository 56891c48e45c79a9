/- Several texts in one: Ref8, Ref8L. -/
import Derived.Test.YtajholbcpmjhiaaGreatDoorH01
import Derived.Test.YtajholbcpmjhiaaGreatDoorH02
import Derived.Test.YtajholbcpmjhiaaGreatDoorH03
import Derived.Test.YtajholbcpmjhiaaGreatDoorH04
import Derived.Test.YtajholbcpmjhiaaGreatDoorH05
import Derived.Test.YtajholbcpmjhiaaGreatDoorH06
import Derived.Test.YtajholbcpmjhiaaGreatDoorH07
import Derived.Test.YtajholbcpmjhiaaGreatDoorH08
import Derived.Test.YtajholbcpmjhiaaGreatDoorH09
import Derived.Test.YtajholbcpmjhiaaGreatDoorH10
import Derived.Test.YtajholbcpmjhiaaGreatDoorH11
import Derived.Test.YtajholbcpmjhiaaGreatDoorH12
import Derived.Test.YtajholbcpmjhiaaGreatDoorH15
import Derived.Test.YtajholbcpmjhiaaGreatDoorH30
import Derived.Test.YtajholbcpmjhiaaGreatDoorH31
import Derived.Test.YtajholbcpmjhiaaGreatDoorH36
import Derived.Test.YtajholbcpmjhiaaGreatDoorH37
import Derived.Test.YtajholbcpmjhiaaGreatDoorH38
import Derived.Test.YtajholbcpmjhiaaGreatDoorH39
import Derived.WalkKit
import Derived.Laws.AppendOwn
import Derived.Below
import Derived.Deep.QuietTactic
import Derived.BigQuiet
import Derived.WalkSpells
import Derived.Test.YtajholbcpmjhiaaGreatDoorProg
import Derived.Handy
import Derived.WalkLawsBesides
import Derived.RegionTactic
import Derived.Outline
import Derived.Lib.BitFns
import Derived.Laws.Rows
import Derived.Laws.AppendOwnNone
import Derived.Deep.RegionHeld3
import Derived.Deep.AppendLies
import Derived.IntWalk
import Derived.Laws.CopyOwn
import Derived.Great.Ranges
import Derived.StillTailTactics
import Derived.BigRegion
import Derived.ChangeAlike
import Derived.Maps.OwnSet
import Derived.Maps.Views
import Derived.WalkArith
import Derived.OneCell
import Derived.ArgAppend
import Derived.Lib.SliceRun
import Derived.Deep.RegionLaw
import Derived.ProofKit
import Derived.OpenShut
/- The walks of the document's windows (muntinref08): Frame, Stored, Loaded. -/
namespace Go.Proofs.YtajholbcpmjhiaaGreatDoor
open Go.RowKit Go.Maps
set_option linter.unusedVariables false
set_option linter.unusedSimpArgs false
/-- What the document looks at: file, memory, window, invalid window. -/
structure W8 where
  f : Fx
  mem : List Int
  cwp : Int
  inv : Int
def W8.agg (q : W8) (lv : Value) (g cap : Nat) : Value := .agg #[.int .i64 q.f.nw, lv, .slice (some ⟨g, 0, none⟩) q.mem.length cap, .int .i64 q.cwp, .int .i64 q.inv]
def W8.cells (q : W8) (lv : Value) (g cap : Nat) : List Value := [.int .i64 q.f.nw, lv, .slice (some ⟨g, 0, none⟩) q.mem.length cap, .int .i64 q.cwp, .int .i64 q.inv]
/-- How such a value lies. -/
structure WIn (w : World) (q : W8) (lv : Value) (L : List Sd) (g cap : Nat) : Prop where
  log : LogIn w lv L
  says : LogOf L q.f
  mem : RefAt w 0 g cap q.mem
  ok : q.f.ok
def WAt (w : World) (n : Nat) (v : Value) (q : W8) : Prop := ∃ lv L g cap, v = q.agg lv g cap ∧ WIn w q lv L g cap ∧ L.length ≤ n
theorem refat_below {w w' : World} {B g cap : Nat} {d : List Int} (h : RefAt w B g cap d) (hb : Below w.heap.size w w') : RefAt w' B g cap d := h.keep (Only.of_below (S := fun _ => False) hb) (fun h => h)
theorem WIn.keep {w w' : World} {q : W8} {lv : Value} {L : List Sd} {g cap : Nat} (h : WIn w q lv L g cap) (hb : Below w.heap.size w w') : WIn w' q lv L g cap := ⟨h.log.keep hb, h.says, refat_below h.mem hb, h.ok⟩
theorem LogIn.only {S : Nat → Prop} {w w' : World} {v : Value} {L : List Sd} (h : LogIn w v L) (o : Only S w w') (hS : ∀ k, v.ownBlock = some k → ¬ S k) : LogIn w' v L := by
  rcases h with h | ⟨g, cap, rfl, h2, h3⟩
  · exact .inl h
  · exact .inr ⟨g, cap, rfl, Nat.lt_of_lt_of_le h2 o.size, fun j u hu => (o.cell (p := ⟨g, j, none⟩) h2 (hS g rfl)).trans (h3 j u hu)⟩
theorem WIn.only {S : Nat → Prop} {w w' : World} {q : W8} {lv : Value} {L : List Sd} {g cap : Nat} (h : WIn w q lv L g cap) (o : Only S w w') (hl : ∀ k, lv.ownBlock = some k → ¬ S k) (hg : ¬ S g) : WIn w' q lv L g cap := ⟨h.log.only o hl, h.says, h.mem.keep o hg, h.ok⟩
theorem LogIn.own_lt {w : World} {v : Value} {L : List Sd} (h : LogIn w v L) {k : Nat} (hk : v.ownBlock = some k) : k < w.heap.size := by
  rcases h with ⟨rfl, _⟩ | ⟨g, cap, rfl, h2, _⟩
  · cases hk
  · have : g = k := by simpa [Value.ownBlock] using hk
    omega
/-- A struct's five cells are copied into a box. -/
def cp5 (w : World) (b : Nat) (v0 v1 v2 v3 v4 : Value) : World := ((((w.setCell ⟨b, 0, none⟩ v0).setCell ⟨b, 1, none⟩ v1).setCell ⟨b, 2, none⟩ v2).setCell ⟨b, 3, none⟩ v3).setCell ⟨b, 4, none⟩ v4
theorem cp5_only {S : Nat → Prop} (w : World) (b : Nat) (v0 v1 v2 v3 v4 : Value) (h : S b) : Only S w (cp5 w b v0 v1 v2 v3 v4) :=
  (((((Only.refl S w).setCell (p := ⟨b, 0, none⟩) h _).setCell (p := ⟨b, 1, none⟩) h _).setCell (p := ⟨b, 2, none⟩) h _).setCell (p := ⟨b, 3, none⟩) h _).setCell (p := ⟨b, 4, none⟩) h _
theorem cp5_row {w : World} {b : Nat} {t : TypeId} {x0 x1 x2 x3 x4 : Value} (h : ARow w b t [x0, x1, x2, x3, x4]) (v0 v1 v2 v3 v4 : Value) : ARow (cp5 w b v0 v1 v2 v3 v4) b t [v0, v1, v2, v3, v4] := ((((h.set 0 v0).set 1 v1).set 2 v2).set 3 v3).set 4 v4
theorem WAt.keep {w w' : World} {n : Nat} {v : Value} {q : W8} (h : WAt w n v q) (hb : Below w.heap.size w w') : WAt w' n v q := by
  obtain ⟨lv, L, g, cap, h1, h2, h3⟩ := h
  exact ⟨lv, L, g, cap, h1, h2.keep hb, h3⟩
theorem WAt.le {w : World} {n n' : Nat} {v : Value} {q : W8} (h : WAt w n v q) (hn : n ≤ n') : WAt w n' v q := by
  obtain ⟨lv, L, g, cap, h1, h2, h3⟩ := h
  exact ⟨lv, L, g, cap, h1, h2, Nat.le_trans h3 hn⟩
def frame8 (q : W8) (wi : Int) : Int := getV q.f wi 0 14
def store8 (q : W8) (wi : Int) : W8 := { q with mem := putV q.mem (frame8 q wi) (winV q.f wi) }
def load8 (q : W8) (wi : Int) : W8 := { q with f := setsF q.f wi (wordsS q.mem (frame8 q wi).toNat 16) 16 }
def can8 (q : W8) (wi : Int) : Bool := decide (spanE q.mem.length (frame8 q wi) 16 4 = 0)
set_option maxRecDepth 100000 in
set_option maxHeartbeats 4000000 in
theorem r8_frame (W : World) (n : Nat) (v : Value) (q : W8) (hq : WAt W n v q) (hn : n < 1000000) (wi : Int) :
    Calls Tryz.prog 102 #[v, .int .i64 wi] W fun e w' => e = .returned (.int .u32 (frame8 q wi)) ∧ Below W.heap.size W w' := by
  obtain ⟨lv, L, g, cap, rfl, hin, hL⟩ := hq
  obtain ⟨p, c, rfl⟩ := hin.log.shape
  obtain ⟨W1, hW1⟩ : ∃ x, x = W.alloc (.cells (q.cells (.slice p L.length c) g cap).toArray 58) := ⟨_, rfl⟩
  have hbw : Below W.heap.size W W1 := by rw [hW1]; exact (Below.refl _ _).alloc (Nat.le_refl _) _
  have hB : ARow W1 W.heap.size 58 (q.cells (.slice p L.length c) g cap) := by rw [hW1]; exact ARow.fresh W _ _
  have b0 := hB.cell (k := 0) rfl
  have b1 := hB.cell (k := 1) rfl
  have HBW := mhid hbw
  have HG := mhid (fun (w' : World) (h : Below W1.heap.size W1 w') => rf_get w' q.f hin.ok (.slice p L.length c) L ((hin.keep hbw).log.keep h) (by omega) hin.says wi 0 14)
  clear hbw hB hin
  rw [hW1] at b0 b1
  unfold W8.cells at b0 b1 hW1
  unfold W8.agg
  go_enter Tryz.func102, Tryz.ntmps102
  go_wp2_with fail
  rw [← hW1]
  clear hW1 b0 b1
  refine (HG.out W1 (Below.refl _ _)).mono ?_
  rintro e W2 ⟨rfl, hb⟩
  have HBW := mhid (HBW.out.trans (hb.mono HBW.out.size))
  clear hb
  go_wp2_with fail
  go_ret
  exact ⟨rfl, HBW.out⟩
/-- Words, as they are read and put. -/
theorem u32s_of {w w' : World} {base : Nat} {v : Value} {l : List Int} (h : w.ownsRow base 24 1 v l.length (u32s l)) (hw : Words l) (hb : Below w.heap.size w w') : U32s (fun _ => False) w' v l := by
  obtain ⟨hl, p, c, rfl, h2⟩ := Reads32.of_own h
  refine ⟨hw, p, c, rfl, fun h0 => ?_⟩
  obtain ⟨b, o, rfl, h3⟩ := h2 h0
  have hlt : b < w.heap.size := World.block_lt_of_cell? _ _ (h3 0 h0)
  exact ⟨b, o, rfl, fun h => h, Nat.lt_of_lt_of_le hlt hb.size, fun k hk => (hb.cell (p := ⟨b, o + k, none⟩) hlt).trans (h3 k hk)⟩
theorem winV_words {f : Fx} (h : f.ok) (wi : Int) : Words (winV f wi) := by
  unfold winV
  split
  · intro x hx
    unfold winR at hx
    exact h.ww x (List.mem_of_mem_drop (List.mem_of_mem_take hx))
  · intro x hx; simp at hx
theorem winV_le (f : Fx) (wi : Int) : (winV f wi).length ≤ 16 := by
  unfold winV
  split
  · unfold winR; rw [List.length_take]; omega
  · simp
/-- The blocks that such a value leans on. -/
def own8 (v : Value) (k : Nat) : Prop := match v with
  | .agg cs => (cs.getD 1 undef).ownBlock = some k ∨ (cs.getD 2 undef).ownBlock = some k
  | _ => False
theorem own8_agg (q : W8) (lv : Value) (g cap k : Nat) : own8 (q.agg lv g cap) k ↔ lv.ownBlock = some k ∨ k = g := by
  unfold own8 W8.agg
  show lv.ownBlock = some k ∨ (Value.slice (some ⟨g, 0, none⟩) _ cap).ownBlock = some k ↔ _
  simp only [Value.ownBlock, Option.some.injEq]
  exact ⟨fun h => h.imp id (fun h => h.symm), fun h => h.imp id (fun h => h.symm)⟩
theorem WAt.own_lt {w : World} {n : Nat} {v : Value} {q : W8} (h : WAt w n v q) {k : Nat} (hk : own8 v k) : k < w.heap.size := by
  obtain ⟨lv, L, g, cap, rfl, h2, _⟩ := h
  rcases (own8_agg _ _ _ _ _).1 hk with h | rfl
  · exact h2.log.own_lt h
  · exact h2.mem.lt.2
theorem WAt.only {S : Nat → Prop} {w w' : World} {n : Nat} {v : Value} {q : W8} (h : WAt w n v q) (o : Only S w w') (hS : ∀ k, own8 v k → ¬ S k) : WAt w' n v q := by
  obtain ⟨lv, L, g, cap, rfl, h2, h3⟩ := h
  exact ⟨lv, L, g, cap, rfl, h2.only o (fun k hk => hS k ((own8_agg _ _ _ _ _).2 (.inl hk))) (hS g ((own8_agg _ _ _ _ _).2 (.inr rfl))), h3⟩
def Gives8 (W : World) (n : Nat) (v : Value) (q : W8) (b : Bool) (e : Ending) (w' : World) : Prop := ∃ v', e = .returned (.tuple #[v', .bool b]) ∧ WAt w' n v' q ∧ Below W.heap.size W w' ∧ ∀ k, own8 v' k → own8 v k ∨ W.heap.size ≤ k
set_option maxRecDepth 100000 in
set_option maxHeartbeats 4000000 in
theorem r8_stored (W : World) (n : Nat) (v : Value) (q : W8) (hq : WAt W n v q) (hn : n < 1000000) (wi : Int) (hwi : 0 ≤ wi ∧ wi < q.f.nw) :
    Calls Tryz.prog 72 #[v, .int .i64 wi] W (Gives8 W n v (store8 q wi) (can8 q wi)) := by
  obtain ⟨lv, L, g, cap, rfl, hin, hL⟩ := hq
  obtain ⟨p, c, rfl⟩ := hin.log.shape
  obtain ⟨W1, hW1⟩ : ∃ x, x = W.alloc (.cells (q.cells (.slice p L.length c) g cap).toArray 58) := ⟨_, rfl⟩
  have hbw : Below W.heap.size W W1 := by rw [hW1]; exact (Below.refl _ _).alloc (Nat.le_refl _) _
  have hB : ARow W1 W.heap.size 58 (q.cells (.slice p L.length c) g cap) := by rw [hW1]; exact ARow.fresh W _ _
  have hsz1 : W1.heap.size = W.heap.size + 1 := by rw [hW1]; simp
  have HIN := mhid (hin.keep hbw)
  have HB := mhid hB
  have HBW := mhid hbw
  have HG := mhid (fun (w' : World) (h : Below W1.heap.size W1 w') => rf_window w' q.f hin.ok (.slice p L.length c) L ((hin.keep hbw).log.keep h) (by omega) hin.says wi)
  have HG0 := mhid hin.mem.lt.2
  have HLO := mhid (fun k (hk : (Value.slice p L.length c).ownBlock = some k) => hin.log.own_lt hk)
  clear hbw hB hin
  go_enter Tryz.func72, Tryz.ntmps72
  unfold W8.cells at hW1 HB
  unfold W8.agg
  have b0 := HB.out.cell (k := 0) rfl
  have b1 := HB.out.cell (k := 1) rfl
  rw [hW1] at b0 b1
  go_wp2_with fail
  rw [← hW1]
  obtain ⟨W2, hW2⟩ : ∃ x, x = W1.alloc (.cells #[.int .i64 0, .slice none 0 0, .slice none 0 0, .int .i64 0, .int .i64 0] 58) := ⟨_, rfl⟩
  rw [← hW2]
  have hb2 : Below W1.heap.size W1 W2 := by rw [hW2]; exact (Below.refl _ _).alloc (Nat.le_refl _) _
  have hR : ARow W2 (W.heap.size + 1) 58 [.int .i64 0, .slice none 0 0, .slice none 0 0, .int .i64 0, .int .i64 0] := by rw [hW2, ← hsz1]; exact ARow.fresh W1 _ _
  have HB := mhid (HB.out.below hb2)
  have HW := HG.out W2 hb2
  have HIN := mhid (HIN.out.keep hb2)
  have HBW := mhid (HBW.out.trans (hb2.mono HBW.out.size))
  have HWN := mhid HW
  clear HW hW2 hW1 b0 b1 HG
  refine HWN.out.mono ?_
  rintro e W3 ⟨rv, rfl, hrow, hb3⟩
  have HB := mhid (HB.out.below hb3)
  have HR := mhid (hR.below hb3)
  have HSZ3 := mhid (show W.heap.size + 2 ≤ W3.heap.size from HR.out.lt)
  have HIN := mhid (HIN.out.keep hb3)
  have HBW := mhid (HBW.out.trans (hb3.mono HBW.out.size))
  have HRW := mhid hrow
  have hrr : regE q.f wi 0 0 = 0 := if_pos ⟨hwi, by omega, by omega, by omega⟩
  rw [hrr]
  obtain ⟨-, pr, cr, rfl, -⟩ := Reads32.of_own hrow
  clear hrow hb3 hb2 hR HWN hrr
  have b0 := HB.out.cell (k := 0) rfl
  have b1 := HB.out.cell (k := 1) rfl
  have b2 := HB.out.cell (k := 2) rfl
  have b3 := HB.out.cell (k := 3) rfl
  have b4 := HB.out.cell (k := 4) rfl
  have HFR := mhid (fun (w' : World) (h : Below W3.heap.size W3 w') => r8_frame w' n (q.agg (.slice p L.length c) g cap) q ⟨_, L, g, cap, rfl, HIN.out.keep h, hL⟩ hn wi)
  unfold W8.agg at HFR
  have hfb := HIN.out.ok.gV wi 0 14
  have HPU := mhid (fun (w' : World) (h : Below W3.heap.size W3 w') => mrput_any w' 0 g cap q.mem (refat_below HIN.out.mem h) (frame8 q wi) hfb.1 hfb.2 (.slice pr (winV q.f wi).length cr) (winV q.f wi) (by have := winV_le q.f wi; unfold maxLen; omega) (u32s_of HRW.out (winV_words HIN.out.ok wi) h))
  have HKS := mhid (show ∀ w', Below W3.heap.size W3 w' → w'.cell? ⟨W.heap.size, 0, none⟩ = some (.int .i64 q.f.nw) ∧ w'.cell? ⟨W.heap.size, 1, none⟩ = some (.slice p L.length c) ∧ w'.cell? ⟨W.heap.size, 2, none⟩ = some (.slice (some ⟨g, 0, none⟩) q.mem.length cap) ∧ w'.cell? ⟨W.heap.size, 3, none⟩ = some (.int .i64 q.cwp) ∧ w'.cell? ⟨W.heap.size, 4, none⟩ = some (.int .i64 q.inv) from fun w' hb => by
    have h := HB.out.below hb
    exact ⟨h.cell (k := 0) rfl, h.cell (k := 1) rfl, h.cell (k := 2) rfl, h.cell (k := 3) rfl, h.cell (k := 4) rfl⟩)
  have hbl0 := Below.refl W3.heap.size W3
  have hle0 : W3.heap.size ≤ W3.heap.size := Nat.le_refl _
  go_wp2_with fail
  go_region_held3 (fun w' => w'.cell? ⟨W.heap.size, 0, none⟩ = some (.int .i64 q.f.nw) ∧ w'.cell? ⟨W.heap.size, 1, none⟩ = some (.slice p L.length c) ∧ w'.cell? ⟨W.heap.size, 2, none⟩ = some (.slice (some ⟨g, 0, none⟩) q.mem.length cap) ∧ w'.cell? ⟨W.heap.size, 3, none⟩ = some (.int .i64 q.cwp) ∧ w'.cell? ⟨W.heap.size, 4, none⟩ = some (.int .i64 q.inv)) (first | (with_reducible exact ⟨b0, b1, b2, b3, b4⟩) | (refine HKS.out _ ?_; go_grown; done))
    (first
      | (go_at_call 102; refine (HFR.out _ (by go_grown)).mono ?_; rintro e wx ⟨rfl, hbx⟩; have hbx : Below W3.heap.size W3 wx := (Below.trans (by go_grown) (hbx.mono (by go_grown))))
      | (go_at_call 70; refine (HPU.out _ (by go_grown)).mono ?_; rintro e wy ⟨g2, cap2, rfl, href, hby, hgg⟩; have hby : Below W3.heap.size W3 wy := Below.trans hbx (hby.mono hbx.size)))
  have hwl : (winV q.f wi).length = 16 := (winV_get HIN.out.ok ⟨hwi, by omega, by omega, by omega⟩ (show 0 < 16 by omega)).2
  have HWL := mhid hwl
  have HB := mhid (HB.out.below hby)
  have HR := mhid (HR.out.below hby)
  have HIN := mhid (HIN.out.keep hby)
  have HBW := mhid (HBW.out.trans (hby.mono HBW.out.size))
  have HRF := mhid href
  have hlt2 := (href.lt).2
  have hgne : g2 = g ∨ W3.heap.size ≤ g2 := hgg.imp id (fun h => Nat.le_trans hbx.size h)
  have hglt : g < W.heap.size := HG0.out
  have hszy : W.heap.size + 2 ≤ W3.heap.size := HSZ3.out
  clear hby hbx href hgg b0 b1 b2 b3 b4 hwl HKS HFR HPU hbl0 hle0
  have b0 := HB.out.cell (k := 0) rfl
  have b1 := HB.out.cell (k := 1) rfl
  have b3 := HB.out.cell (k := 3) rfl
  have b4 := HB.out.cell (k := 4) rfl
  have bf2 := HB.out.frozen 2
  have b2 := HB.out.cell (k := 2) rfl
  have r0 := HR.out.cell (k := 0) rfl
  have rf0 := HR.out.frozen 0
  have r1 := HR.out.cell (k := 1) rfl
  have rf1 := HR.out.frozen 1
  have r2 := HR.out.cell (k := 2) rfl
  have rf2 := HR.out.frozen 2
  have r3 := HR.out.cell (k := 3) rfl
  have rf3 := HR.out.frozen 3
  have r4 := HR.out.cell (k := 4) rfl
  have rf4 := HR.out.frozen 4
  go_wp2_with fail
  have hR9 := cp5_row (HR.out.other (a := ⟨W.heap.size, 2, none⟩) (by simp) (.slice (some ⟨g2, 0, none⟩) q.mem.length cap2)) (.int .i64 q.f.nw) (.slice p L.length c) (.slice (some ⟨g2, 0, none⟩) q.mem.length cap2) (.int .i64 q.cwp) (.int .i64 q.inv)
  have ho9 : Only (fun k => k = W.heap.size ∨ k = W.heap.size + 1) wy (cp5 (wy.setCell ⟨W.heap.size, 2, none⟩ (.slice (some ⟨g2, 0, none⟩) q.mem.length cap2)) (W.heap.size + 1) (.int .i64 q.f.nw) (.slice p L.length c) (.slice (some ⟨g2, 0, none⟩) q.mem.length cap2) (.int .i64 q.cwp) (.int .i64 q.inv)) :=
    ((Only.refl (fun k => k = W.heap.size ∨ k = W.heap.size + 1) wy).setCell (p := ⟨W.heap.size, 2, none⟩) (.inl rfl) _).trans (cp5_only _ _ _ _ _ _ _ (.inr rfl))
  change bodyPost _ _ _ _ _ (cp5 (wy.setCell ⟨W.heap.size, 2, none⟩ (.slice (some ⟨g2, 0, none⟩) q.mem.length cap2)) (W.heap.size + 1) (.int .i64 q.f.nw) (.slice p L.length c) (.slice (some ⟨g2, 0, none⟩) q.mem.length cap2) (.int .i64 q.cwp) (.int .i64 q.inv))
  clear b0 b1 b2 b3 b4 bf2 r0 r1 r2 r3 r4 rf0 rf1 rf2 rf3 rf4
  generalize (cp5 (wy.setCell ⟨W.heap.size, 2, none⟩ (.slice (some ⟨g2, 0, none⟩) q.mem.length cap2)) (W.heap.size + 1) (.int .i64 q.f.nw) (.slice p L.length c) (.slice (some ⟨g2, 0, none⟩) q.mem.length cap2) (.int .i64 q.cwp) (.int .i64 q.inv)) = W9 at *
  have s0 := hR9.cell (k := 0) rfl
  have s1 := hR9.cell (k := 1) rfl
  have s2 := hR9.cell (k := 2) rfl
  have s3 := hR9.cell (k := 3) rfl
  have s4 := hR9.cell (k := 4) rfl
  refine bodyPost_ret (by simp [results, Tryz.results72, go_sem, s0, s1, s2, s3, s4]; try rfl) rfl ?_
  have hmem : (store8 q wi).mem.length = q.mem.length := by unfold store8 putV; simp only; split; rw [putS_len]; rfl
  refine ⟨_, ?_, ⟨.slice p L.length c, L, g2, cap2, rfl, ⟨?_, HIN.out.says, ?_, HIN.out.ok⟩, hL⟩, ?_, ?_⟩
  · unfold can8
    rw [HWL.out]
    rw [show (store8 q wi).agg (.slice p L.length c) g2 cap2 = .agg #[.int .i64 q.f.nw, .slice p L.length c, .slice (some ⟨g2, 0, none⟩) q.mem.length cap2, .int .i64 q.cwp, .int .i64 q.inv] from by unfold W8.agg; rw [hmem]; rfl]
    rfl
  · exact HIN.out.log.only ho9 (fun k hk hS => by have := HLO.out k hk; omega)
  · have h := HRF.out
    exact h.keep ho9 (by omega)
  · exact HBW.out.trans (ho9.below HBW.out.size (fun k hk hS => by omega))
  · intro k hk
    rcases (own8_agg _ _ _ _ _).1 hk with h | rfl
    · exact .inl ((own8_agg q _ _ _ _).2 (.inl h))
    · rcases hgne with rfl | h
      · exact .inl ((own8_agg q _ _ _ _).2 (.inr rfl))
      · exact .inr (by omega)
end Go.Proofs.YtajholbcpmjhiaaGreatDoor
/- The walk of the document's windows (muntinref08): Loaded. -/
namespace Go.Proofs.YtajholbcpmjhiaaGreatDoor
open Go.RowKit Go.Maps
set_option linter.unusedVariables false
set_option linter.unusedSimpArgs false
theorem r32_cell' {w : World} {v : Value} {l : List Int} (h : Reads32 w v l) (h0 : 0 < l.length) : ∃ b o c, v = .slice (some ⟨b, o, none⟩) l.length c ∧ ∀ k, k < l.length → w.cell? ⟨b, o + k, none⟩ = some (.int .u32 (l.getD k 0)) := by
  obtain ⟨b, o, p, c, h1, _, h3, h4⟩ := h.shape
  exact ⟨b, o, c, by rw [h1, h3 h0], h4⟩
theorem wordsS_words' {d : List Int} (h : Bytes d) (a n : Nat) : Words (wordsS d a n) := wordsS_words h a n
set_option maxRecDepth 100000 in
set_option maxHeartbeats 4000000 in
theorem r8_loaded (W : World) (n : Nat) (v : Value) (q : W8) (hq : WAt W n v q) (hn : n < 1000000) (wi : Int) (hwi : 0 ≤ wi ∧ wi < q.f.nw) (hcan : spanE q.mem.length (frame8 q wi) 16 4 = 0) :
    Calls Tryz.prog 74 #[v, .int .i64 wi] W (Gives8 W (n + 16) v (load8 q wi) true) := by
  obtain ⟨lv, L, g, cap, rfl, hin, hL⟩ := hq
  obtain ⟨p, c, rfl⟩ := hin.log.shape
  obtain ⟨W1, hW1⟩ : ∃ x, x = W.alloc (.cells (q.cells (.slice p L.length c) g cap).toArray 58) := ⟨_, rfl⟩
  have hbw : Below W.heap.size W W1 := by rw [hW1]; exact (Below.refl _ _).alloc (Nat.le_refl _) _
  have hB : ARow W1 W.heap.size 58 (q.cells (.slice p L.length c) g cap) := by rw [hW1]; exact ARow.fresh W _ _
  have hsz1 : W1.heap.size = W.heap.size + 1 := by rw [hW1]; simp
  have HIN := mhid (hin.keep hbw)
  have HB := mhid hB
  have HBW := mhid hbw
  have HG0 := mhid hin.mem.lt.2
  have HLO := mhid (fun k (hk : (Value.slice p L.length c).ownBlock = some k) => hin.log.own_lt hk)
  have HCN := mhid hcan
  clear hbw hB hin hcan
  unfold W8.cells at hW1 HB
  unfold W8.agg
  obtain ⟨W2, hW2⟩ : ∃ x, x = W1.alloc (.cells #[.int .i64 0, .slice none 0 0, .slice none 0 0, .int .i64 0, .int .i64 0] 58) := ⟨_, rfl⟩
  have hb2 : Below W1.heap.size W1 W2 := by rw [hW2]; exact (Below.refl _ _).alloc (Nat.le_refl _) _
  have hR : ARow W2 (W.heap.size + 1) 58 [.int .i64 0, .slice none 0 0, .slice none 0 0, .int .i64 0, .int .i64 0] := by rw [hW2, ← hsz1]; exact ARow.fresh W1 _ _
  have HB := mhid (HB.out.below hb2)
  have HR := mhid hR
  have HIN := mhid (HIN.out.keep hb2)
  have HBW := mhid (HBW.out.trans (hb2.mono HBW.out.size))
  have HSZ := mhid (show W.heap.size + 2 ≤ W2.heap.size from hR.lt)
  have hfb := HIN.out.ok.gV wi 0 14
  have HFR := mhid (fun (w' : World) (h : Below W2.heap.size W2 w') => r8_frame w' n (q.agg (.slice p L.length c) g cap) q ⟨_, L, g, cap, rfl, HIN.out.keep h, hL⟩ hn wi)
  unfold W8.agg at HFR
  have HWO := mhid (fun (w' : World) (h : Below W2.heap.size W2 w') => mrwords_any w' 0 g cap q.mem (refat_below HIN.out.mem h) (frame8 q wi) hfb.1 hfb.2 16 (by omega))
  have HKS := mhid (show ∀ w', Below W2.heap.size W2 w' → w'.cell? ⟨W.heap.size, 0, none⟩ = some (.int .i64 q.f.nw) ∧ w'.cell? ⟨W.heap.size, 1, none⟩ = some (.slice p L.length c) ∧ w'.cell? ⟨W.heap.size, 2, none⟩ = some (.slice (some ⟨g, 0, none⟩) q.mem.length cap) ∧ w'.cell? ⟨W.heap.size, 3, none⟩ = some (.int .i64 q.cwp) ∧ w'.cell? ⟨W.heap.size, 4, none⟩ = some (.int .i64 q.inv) from fun w' hb => by
    have h := HB.out.below hb
    exact ⟨h.cell (k := 0) rfl, h.cell (k := 1) rfl, h.cell (k := 2) rfl, h.cell (k := 3) rfl, h.cell (k := 4) rfl⟩)
  obtain ⟨b0, b1, b2, b3, b4⟩ := HKS.out W2 (Below.refl _ _)
  have hbl0 := Below.refl W2.heap.size W2
  have hle0 : W2.heap.size ≤ W2.heap.size := Nat.le_refl _
  go_enter Tryz.func74, Tryz.ntmps74
  refine wp_seq ?_
  go_wp2_with fail
  rw [← hW1, ← hW2]
  clear hW1 hW2 hR hb2
  go_region_held3 (fun w' => w'.cell? ⟨W.heap.size, 0, none⟩ = some (.int .i64 q.f.nw) ∧ w'.cell? ⟨W.heap.size, 1, none⟩ = some (.slice p L.length c) ∧ w'.cell? ⟨W.heap.size, 2, none⟩ = some (.slice (some ⟨g, 0, none⟩) q.mem.length cap) ∧ w'.cell? ⟨W.heap.size, 3, none⟩ = some (.int .i64 q.cwp) ∧ w'.cell? ⟨W.heap.size, 4, none⟩ = some (.int .i64 q.inv)) (first | (with_reducible exact ⟨b0, b1, b2, b3, b4⟩) | (refine HKS.out _ ?_; go_grown; done))
    (first
      | (go_at_call 102; refine (HFR.out _ (by go_grown)).mono ?_; rintro e wx ⟨rfl, hbx⟩; have hbx : Below W2.heap.size W2 wx := (Below.trans (by go_grown) (hbx.mono (by go_grown))))
      | (go_at_call 32; refine (HWO.out _ (by go_grown)).mono ?_; rintro e wy ⟨lv2, l, rfl, hl, hrow, hby⟩; have hby : Below W2.heap.size W2 wy := Below.trans hbx (hby.mono hbx.size)))
  rw [HCN.out] at hl ⊢
  rw [if_pos rfl, show (16 : Int).toNat = 16 from rfl] at hl
  subst hl
  have hll : (wordsS q.mem (frame8 q wi).toNat 16).length = 16 := wordsS_len _ _ _
  have HRD := mhid (Reads32.of_own hrow)
  have HLL := mhid hll
  have HWW := mhid (wordsS_words' HIN.out.mem.bytes (frame8 q wi).toNat 16)
  obtain ⟨bl, ol, cl, rfl, -⟩ := r32_cell' HRD.out (by omega)
  have HB := mhid (HB.out.below hby)
  have HR := mhid (HR.out.below hby)
  have HIN := mhid (HIN.out.keep hby)
  have HBW := mhid (HBW.out.trans (hby.mono HBW.out.size))
  have HSZ := mhid (Nat.le_trans HSZ.out hby.size)
  have HSZ0 := mhid HSZ.out
  have HPU := mhid (rf_put wy q.f HIN.out.ok (.slice p L.length c) L HIN.out.log (by omega) HIN.out.says wi _ _ HRD.out HWW.out hwi HLL.out)
  clear hby hbx hrow b0 b1 b2 b3 b4 hll HKS HFR HWO hbl0 hle0
  have b0 := HB.out.cell (k := 0) rfl
  have b1 := HB.out.cell (k := 1) rfl
  have b2 := HB.out.cell (k := 2) rfl
  have b3 := HB.out.cell (k := 3) rfl
  have b4 := HB.out.cell (k := 4) rfl
  have bf0 := HB.out.frozen 0
  have bf1 := HB.out.frozen 1
  go_wp2_with fail
  refine HPU.out.mono ?_
  rintro e w5 ⟨lv5, L5, rfl, hq5, hlog5, hlen5, hb5, hown5⟩
  obtain ⟨p5, c5, rfl⟩ := hq5.shape
  have HB := mhid (HB.out.below hb5)
  have HR := mhid (HR.out.below hb5)
  have HME := mhid (refat_below HIN.out.mem hb5)
  have HBW := mhid (HBW.out.trans (hb5.mono HBW.out.size))
  have HSZ := mhid (Nat.le_trans HSZ.out hb5.size)
  have H5 := mhid (And.intro hq5 hlog5)
  have HO6 := mhid (show ∀ k, (Value.slice p5 L5.length c5).ownBlock = some k → (Value.slice p L.length c).ownBlock = some k ∨ W.heap.size + 2 ≤ k from fun k hk => (hown5 k hk).imp id (fun h => Nat.le_trans HSZ0.out h))
  have HO5 := mhid (show ∀ k, (Value.slice p5 L5.length c5).ownBlock = some k → k < W.heap.size ∨ W.heap.size + 2 ≤ k from fun k hk => (hown5 k hk).imp (fun h => HLO.out k h) (fun h => Nat.le_trans HSZ0.out h))
  clear hq5 hlog5 hb5 b0 b1 b2 b3 b4 bf0 bf1 HPU
  have b0 := HB.out.cell (k := 0) rfl
  have b1 := HB.out.cell (k := 1) rfl
  have b2 := HB.out.cell (k := 2) rfl
  have b3 := HB.out.cell (k := 3) rfl
  have b4 := HB.out.cell (k := 4) rfl
  have bf0 := HB.out.frozen 0
  have bf1 := HB.out.frozen 1
  have r0 := HR.out.cell (k := 0) rfl
  have rf0 := HR.out.frozen 0
  have r1 := HR.out.cell (k := 1) rfl
  have rf1 := HR.out.frozen 1
  have r2 := HR.out.cell (k := 2) rfl
  have rf2 := HR.out.frozen 2
  have r3 := HR.out.cell (k := 3) rfl
  have rf3 := HR.out.frozen 3
  have r4 := HR.out.cell (k := 4) rfl
  have rf4 := HR.out.frozen 4
  go_wp2_with fail
  have hR9 := cp5_row ((HR.out.other (a := ⟨W.heap.size, 0, none⟩) (by simp) (.int .i64 q.f.nw)).other (a := ⟨W.heap.size, 1, none⟩) (by simp) (.slice p5 L5.length c5)) (.int .i64 q.f.nw) (.slice p5 L5.length c5) (.slice (some ⟨g, 0, none⟩) q.mem.length cap) (.int .i64 q.cwp) (.int .i64 q.inv)
  have ho9 : Only (fun k => k = W.heap.size ∨ k = W.heap.size + 1) w5 (cp5 ((w5.setCell ⟨W.heap.size, 0, none⟩ (.int .i64 q.f.nw)).setCell ⟨W.heap.size, 1, none⟩ (.slice p5 L5.length c5)) (W.heap.size + 1) (.int .i64 q.f.nw) (.slice p5 L5.length c5) (.slice (some ⟨g, 0, none⟩) q.mem.length cap) (.int .i64 q.cwp) (.int .i64 q.inv)) :=
    (((Only.refl (fun k => k = W.heap.size ∨ k = W.heap.size + 1) w5).setCell (p := ⟨W.heap.size, 0, none⟩) (.inl rfl) _).setCell (p := ⟨W.heap.size, 1, none⟩) (.inl rfl) _).trans (cp5_only _ _ _ _ _ _ _ (.inr rfl))
  change bodyPost _ _ _ _ _ (cp5 ((w5.setCell ⟨W.heap.size, 0, none⟩ (.int .i64 q.f.nw)).setCell ⟨W.heap.size, 1, none⟩ (.slice p5 L5.length c5)) (W.heap.size + 1) (.int .i64 q.f.nw) (.slice p5 L5.length c5) (.slice (some ⟨g, 0, none⟩) q.mem.length cap) (.int .i64 q.cwp) (.int .i64 q.inv))
  clear b0 b1 b2 b3 b4 bf0 bf1 r0 r1 r2 r3 r4 rf0 rf1 rf2 rf3 rf4
  generalize (cp5 ((w5.setCell ⟨W.heap.size, 0, none⟩ (.int .i64 q.f.nw)).setCell ⟨W.heap.size, 1, none⟩ (.slice p5 L5.length c5)) (W.heap.size + 1) (.int .i64 q.f.nw) (.slice p5 L5.length c5) (.slice (some ⟨g, 0, none⟩) q.mem.length cap) (.int .i64 q.cwp) (.int .i64 q.inv)) = W9 at *
  have s0 := hR9.cell (k := 0) rfl
  have s1 := hR9.cell (k := 1) rfl
  have s2 := hR9.cell (k := 2) rfl
  have s3 := hR9.cell (k := 3) rfl
  have s4 := hR9.cell (k := 4) rfl
  refine bodyPost_ret (by simp [results, Tryz.results74, go_sem, s0, s1, s2, s3, s4]; try rfl) rfl ?_
  refine ⟨_, ?_, ⟨.slice p5 L5.length c5, L5, g, cap, rfl, ⟨?_, ?_, ?_, ?_⟩, by omega⟩, ?_, ?_⟩
  · rw [show (load8 q wi).agg (.slice p5 L5.length c5) g cap = .agg #[.int .i64 q.f.nw, .slice p5 L5.length c5, .slice (some ⟨g, 0, none⟩) q.mem.length cap, .int .i64 q.cwp, .int .i64 q.inv] from by unfold W8.agg load8; simp only [setsF_nw]]
  · exact H5.out.1.only ho9 (fun k hk hS => by have := HO5.out k hk; omega)
  · exact H5.out.2
  · exact HME.out.keep ho9 (by have := HG0.out; omega)
  · exact setsF_ok HIN.out.ok wi HWW.out 16
  · exact HBW.out.trans (ho9.below HBW.out.size (fun k hk hS => by omega))
  · intro k hk
    rcases (own8_agg _ _ _ _ _).1 hk with h | rfl
    · rcases HO6.out k h with h | h
      · exact .inl ((own8_agg q _ _ _ _).2 (.inl h))
      · exact .inr (by omega)
    · exact .inl ((own8_agg q _ _ _ _).2 (.inr rfl))
end Go.Proofs.YtajholbcpmjhiaaGreatDoor
