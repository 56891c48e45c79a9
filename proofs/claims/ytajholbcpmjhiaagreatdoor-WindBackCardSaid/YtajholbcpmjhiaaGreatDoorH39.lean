/- Several texts in one: WorldLaw, MemRef, MemRefPut, MemRefRow. -/
import Derived.Test.YtajholbcpmjhiaaGreatDoorH01
import Derived.Test.YtajholbcpmjhiaaGreatDoorH02
import Derived.Test.YtajholbcpmjhiaaGreatDoorH03
import Derived.Test.YtajholbcpmjhiaaGreatDoorH04
import Derived.Test.YtajholbcpmjhiaaGreatDoorH05
import Derived.Test.YtajholbcpmjhiaaGreatDoorH06
import Derived.Test.YtajholbcpmjhiaaGreatDoorH07
import Derived.Test.YtajholbcpmjhiaaGreatDoorH08
import Derived.Test.YtajholbcpmjhiaaGreatDoorH09
import Derived.Test.YtajholbcpmjhiaaGreatDoorH10
import Derived.Test.YtajholbcpmjhiaaGreatDoorH11
import Derived.Test.YtajholbcpmjhiaaGreatDoorH12
import Derived.Test.YtajholbcpmjhiaaGreatDoorH30
import Derived.Test.YtajholbcpmjhiaaGreatDoorH31
import Derived.Test.YtajholbcpmjhiaaGreatDoorH36
import Derived.Test.YtajholbcpmjhiaaGreatDoorH37
import Derived.Test.YtajholbcpmjhiaaGreatDoorH38
import Derived.Test.YtajholbcpmjhiaaGreatDoorH15
import Derived.WalkKit
import Derived.Laws.AppendOwn
import Derived.Below
import Derived.Deep.QuietTactic
import Derived.BigQuiet
import Derived.WalkSpells
import Derived.Test.YtajholbcpmjhiaaGreatDoorProg
import Derived.Handy
import Derived.WalkLawsBesides
import Derived.RegionTactic
import Derived.Outline
import Derived.Lib.BitFns
import Derived.Laws.Rows
import Derived.Laws.AppendOwnNone
import Derived.Deep.RegionHeld3
import Derived.Deep.AppendLies
import Derived.IntWalk
import Derived.Laws.CopyOwn
import Derived.Great.Ranges
import Derived.StillTailTactics
import Derived.BigRegion
import Derived.ChangeAlike
import Derived.Maps.OwnSet
import Derived.Maps.Views
import Derived.WalkArith
import Derived.OneCell
import Derived.ArgAppend
import Derived.Lib.SliceRun
import Derived.Deep.RegionLaw
import Derived.ProofKit
import Derived.OpenShut
/- Plain law: two files that are alike; how one is built window by window, global by global. No program in sight. -/
namespace Go.Proofs.YtajholbcpmjhiaaGreatDoor
open Go.RowKit
set_option linter.unusedVariables false
set_option linter.unusedSimpArgs false
/-- The same windows; the same globals of the banks below 16. -/
structure FLike (f g : Fx) : Prop where
  nw : f.nw = g.nw
  win : ∀ w : Nat, w < g.nw → winV f w = winV g w
  glo : ∀ k r : Nat, k < 16 → r < 8 → getV f 0 k r = getV g 0 k r
theorem setsF_win {f : Fx} (hok : f.ok) {w : Nat} (hw : w < f.nw) {l : List Int} (hl : l.length = 16) : ∀ k, k ≤ 16 → setsF f w l k = { f with win := setW f.win w (l.take k) } := by
  intro k
  induction k with
  | zero => intro _; show f = _; rw [List.take_zero, setW_nil]
  | succ k ih =>
    intro hk
    have hwl := hok.wl
    show setV (setsF f w l k) w 0 (16 + (k : Int)) (l.getD k 0) = _
    rw [ih (by omega)]
    unfold setV
    rw [if_pos (show regOk _ (w : Int) 0 (16 + (k : Int)) from ⟨⟨by omega, by show (w : Int) < (f.nw : Int); omega⟩, by omega, by omega, by omega⟩)]
    unfold setF
    have e1 : (16 + (k : Int)).toNat = 16 + k := by omega
    rw [e1, if_neg (by omega), if_neg (by omega), if_neg (by omega), Int.toNat_natCast, show 16 + k - 16 = k by omega]
    have e2 : l.take (k + 1) = l.take k ++ [l.getD k 0] := by rw [List.take_succ_eq_append_getElem (by omega), List.getD_eq_getElem?_getD, List.getElem?_eq_getElem (by omega)]; rfl
    have e3 : (l.take k).length = k := by rw [List.length_take]; omega
    rw [e2, setW_snoc (by rw [e3]; omega), e3]
theorem setsF_all {f : Fx} (hok : f.ok) {w : Nat} (hw : w < f.nw) {l : List Int} (hl : l.length = 16) : setsF f w l 16 = { f with win := setW f.win w l } := by
  rw [setsF_win hok hw hl 16 (Nat.le_refl _), List.take_of_length_le (by omega)]
theorem winV_nat {f : Fx} {w : Nat} (hw : w < f.nw) : winV f w = winR f w := by
  unfold winV; rw [if_pos (show regOk f w 0 0 from ⟨⟨by omega, by omega⟩, by omega, by omega, by omega⟩), Int.toNat_natCast]
theorem winR_setW {f : Fx} (hok : f.ok) {w : Nat} (hw : w < f.nw) {l : List Int} (hl : l.length = 16) (v : Nat) (hv : v < f.nw) : winR { f with win := setW f.win w l } v = if v = w then l else winR f v := by
  have hwl := hok.wl
  have hsl : (setW f.win w l).length = f.win.length := setW_len (by omega)
  refine List.ext_getElem? fun j => ?_
  unfold winR
  by_cases hj : j < 16
  · rw [List.getElem?_take_of_lt hj, List.getElem?_drop]
    have hg : ∀ (a : List Int) (i : Nat), i < a.length → a[i]? = some (a.getD i 0) := fun a i hi => by rw [List.getD_eq_getElem?_getD, List.getElem?_eq_getElem hi]; rfl
    rw [hg (setW f.win w l) _ (by rw [hsl]; omega)]
    by_cases e : v = w
    · subst e
      rw [if_pos rfl, setW_in (by omega) (by omega), ← hg l j (by omega)]
    · rw [if_neg e, setW_out (by omega) (by rcases Nat.lt_or_gt_of_ne e with h | h <;> omega), List.getElem?_take_of_lt hj, List.getElem?_drop, ← hg f.win _ (by omega)]
  · rw [List.getElem?_eq_none (by rw [List.length_take]; omega)]
    split
    · rw [List.getElem?_eq_none (by omega)]
    · rw [List.getElem?_eq_none (by rw [List.length_take]; omega)]
/-- A file under way: windows below k, globals ahead of a place are another's. -/
structure FWay (f g : Fx) (k b r : Nat) : Prop where
  ok : f.ok
  nw : f.nw = g.nw
  win : ∀ w : Nat, w < k → w < g.nw → winR f w = winR g w
  glo : ∀ i j : Nat, i < 16 → j < 8 → (i < b ∨ (i = b ∧ j < r)) → getV f 0 i j = getV g 0 i j
theorem FWay.new {g : Fx} (hg : g.ok) : FWay (Fx.new g.nw) g 0 0 0 := ⟨Fx.ok.new hg.nw2 hg.nw32, rfl, fun w h => by omega, fun i j _ _ h => by omega⟩
theorem getV_glob {f : Fx} (hok : f.ok) {i j : Nat} (hi : i < 17) (hj : j < 8) : getV f 0 i j = if j = 0 then 0 else f.glo.getD (i * 8 + j) 0 := by
  have := hok.nw2
  unfold getV
  rw [if_pos (show regOk f 0 i j from ⟨⟨by omega, by omega⟩, by omega, by omega, by omega⟩)]
  unfold getF
  simp only [Int.toNat_natCast]
  rw [show (0 : Int).toNat = 0 from rfl]
  by_cases h0 : j = 0
  · rw [if_pos h0, if_pos h0]
  · rw [if_neg h0, if_neg h0, if_pos hj]
theorem FWay.window {f g : Fx} {k : Nat} (h : FWay f g k 0 0) (hg : g.ok) (hk : k < g.nw) : FWay (setsF f k (winR g k) 16) g (k + 1) 0 0 := by
  have hl := winR_len hg hk
  have hkf : k < f.nw := by rw [h.nw]; exact hk
  refine ⟨?_, (setsF_nw _ _ _ _).trans h.nw, fun w hw hw2 => ?_, fun i j _ _ h => by omega⟩
  · refine setsF_ok h.ok _ (fun x hx => ?_) 16
    unfold winR at hx
    exact hg.ww x (List.mem_of_mem_drop (List.mem_of_mem_take hx))
  · rw [setsF_all h.ok hkf hl, winR_setW h.ok hkf hl w (by rw [h.nw]; exact hw2)]
    split
    · rename_i e; rw [e]
    · exact h.win w (by omega) hw2
theorem FWay.start {f g : Fx} (h : FWay f g g.nw 0 0) (hg : g.ok) : FWay f g g.nw 0 1 := by
  refine ⟨h.ok, h.nw, h.win, fun i j hi hj hh => ?_⟩
  rw [getV_glob h.ok (by omega) hj, getV_glob hg (by omega) hj, if_pos (by omega), if_pos (by omega)]
theorem FWay.next {f g : Fx} {b : Nat} (h : FWay f g g.nw b 8) (hg : g.ok) : FWay f g g.nw (b + 1) 1 := by
  refine ⟨h.ok, h.nw, h.win, fun i j hi hj hh => ?_⟩
  by_cases e : j = 0
  · rw [getV_glob h.ok (by omega) hj, getV_glob hg (by omega) hj, if_pos e, if_pos e]
  · exact h.glo i j hi hj (by omega)
theorem FWay.global {f g : Fx} {b r : Nat} (h : FWay f g g.nw b r) (hg : g.ok) (hb : b < 16) (hr : 1 ≤ r) (hr2 : r < 8) : FWay (setV f 0 b r (getV g 0 b r)) g g.nw b (r + 1) := by
  have h2 := h.ok.nw2
  have hgl := h.ok.gl
  have e : setV f 0 b r (getV g 0 b r) = { f with glo := f.glo.set (b * 8 + r) (getV g 0 b r) } := by
    unfold setV
    rw [if_pos (show regOk f 0 b r from ⟨⟨by omega, by omega⟩, by omega, by omega, by omega⟩)]
    unfold setF
    simp only [Int.toNat_natCast]
    rw [if_neg (by omega), if_pos hr2]
  refine ⟨h.ok.sV _ _ _ (hg.gV _ _ _), by rw [e]; exact h.nw, fun w hw hw2 => by rw [e]; exact h.win w hw hw2, fun i j hi hj hh => ?_⟩
  have hok2 : (setV f 0 b r (getV g 0 b r)).ok := h.ok.sV _ _ _ (hg.gV _ _ _)
  rw [getV_glob hok2 (by omega) hj, e]
  simp only
  rw [getD_set _ _ _ _ (by omega)]
  by_cases hij : i = b ∧ j = r
  · obtain ⟨rfl, rfl⟩ := hij
    rw [if_neg (by omega), if_pos rfl]
  · have hold := h.glo i j hi hj (by omega)
    rw [← hold, getV_glob h.ok (by omega) hj, if_neg (show ¬ b * 8 + r = i * 8 + j by omega)]
theorem FWay.fin {f g : Fx} {r : Nat} (h : FWay f g g.nw 16 r) : FLike f g :=
  ⟨h.nw, fun w hw => by rw [winV_nat (by rw [h.nw]; exact hw), winV_nat hw]; exact h.win w hw hw, fun i j hi hj => h.glo i j hi hj (.inl hi)⟩
end Go.Proofs.YtajholbcpmjhiaaGreatDoor
/- The walks of the document's answer for the memory (muntinref05). -/
namespace Go.Proofs.YtajholbcpmjhiaaGreatDoor
open Go.RowKit
set_option linter.unusedVariables false
set_option linter.unusedSimpArgs false
/-- A row of bytes of the call's own. -/
structure RefAt (w : World) (B g cap : Nat) (d : List Int) : Prop where
  own : w.ownsRow B 5 1 (.slice (some ⟨g, 0, none⟩) d.length cap) d.length (u8s d)
  bytes : Bytes d
  len : d.length ≤ 4194304
theorem RefAt.row {w : World} {B g cap : Nat} {d : List Int} (h : RefAt w B g cap d) : ∃ cur, B ≤ g ∧ w.heap[g]? = some (.cells cur 5 (0, 0)) ∧ d.length ≤ cap ∧ cap ≤ maxLen ∧ cur.size = cap ∧ cur.toList.take d.length = u8s d := by
  rcases h.own.2 with ⟨h1, _⟩ | ⟨g', cap', cur, hv, hg, hh, hc, hm, hs, ht⟩
  · cases h1
  · cases hv
    exact ⟨cur, hg, hh, hc, hm, by omega, by rw [← ht, Nat.mul_one]⟩
theorem RefAt.mk' {w : World} {B g cap : Nat} {d : List Int} {cur : Array Value} (hb : Bytes d) (hl : d.length ≤ 4194304) (hg : B ≤ g) (hh : w.heap[g]? = some (.cells cur 5 (0, 0))) (hc : d.length ≤ cap) (hm : cap ≤ maxLen) (hs : cur.size = cap) (ht : cur.toList.take d.length = u8s d) : RefAt w B g cap d :=
  ⟨⟨by simp [u8s], .inr ⟨g, cap, cur, rfl, hg, hh, hc, hm, by omega, by rw [Nat.mul_one]; exact ht⟩⟩, hb, hl⟩
theorem RefAt.keep {S : Nat → Prop} {a b : World} {B g cap : Nat} {d : List Int} (h : RefAt a B g cap d) (o : Only S a b) (hg : ¬ S g) : RefAt b B g cap d := by
  obtain ⟨cur, h1, h2, h3, h4, h5, h6⟩ := h.row
  exact RefAt.mk' h.bytes h.len h1 (o.obj h2 hg) h3 h4 h5 h6
theorem RefAt.lt {w : World} {B g cap : Nat} {d : List Int} (h : RefAt w B g cap d) : B ≤ g ∧ g < w.heap.size := by
  obtain ⟨cur, h1, h2, _⟩ := h.row
  exact ⟨h1, lt_of_block h2⟩
theorem RefAt.base {w : World} {B B' g cap : Nat} {d : List Int} (h : RefAt w B g cap d) (hB : B' ≤ g) : RefAt w B' g cap d := by
  obtain ⟨cur, h1, h2, h3, h4, h5, h6⟩ := h.row
  exact RefAt.mk' h.bytes h.len hB h2 h3 h4 h5 h6
theorem RefAt.byte {w : World} {B g cap : Nat} {d : List Int} (h : RefAt w B g cap d) {i : Nat} (hi : i < d.length) : w.cell? ⟨g, i, none⟩ = some (.int .u8 (d.getD i 0)) := by
  obtain ⟨cur, h1, h2, h3, h4, h5, h6⟩ := h.row
  rw [cell_of_obj h2]
  have e : cur[i]? = (cur.toList.take d.length)[i]? := by rw [List.getElem?_take_of_lt hi]; simp
  rw [e, h6]; simp [u8s, hi]
theorem RefAt.free {w : World} {B g cap : Nat} {d : List Int} (h : RefAt w B g cap d) (i : Nat) : w.frozen? ⟨g, i, none⟩ = false := by
  obtain ⟨cur, h1, h2, _⟩ := h.row
  exact free_of_obj h2
theorem RefAt.set {w : World} {B g cap : Nat} {d : List Int} (h : RefAt w B g cap d) {i : Nat} (hi : i < d.length) {x : Int} (hx : 0 ≤ x ∧ x < 256) : RefAt (w.setCell ⟨g, i, none⟩ (.int .u8 x)) B g cap (d.set i x) := by
  obtain ⟨cur, h1, h2, h3, h4, h5, h6⟩ := h.row
  refine RefAt.mk' (h.bytes.set i hx) (by simpa using h.len) h1 (obj_setCell h2 _) (by simpa using h3) h4 (by simpa using h5) ?_
  rw [List.length_set, Array.toList_setIfInBounds, List.take_set, h6]
  simp [u8s, List.map_set]
theorem RefAt.news {w : World} {B g cap : Nat} {d : List Int} (h : RefAt w B g cap d) : ∀ j u, (u8s d)[j]? = some u → w.cell? ((⟨g, 0, none⟩ : Addr).add j) = some u := by
  intro j u hj
  have hlt : j < d.length := by
    have := (List.getElem?_eq_some_iff.1 hj).1; simpa [u8s] using this
  have hb := h.byte hlt
  rw [show (⟨g, 0, none⟩ : Addr).add j = ⟨g, j, none⟩ from by unfold Addr.add; split <;> simp [*]]
  rw [hb, ← hj]
  simp [u8s, hlt]
set_option maxHeartbeats 400000 in
theorem rthere_any (p : Option Addr) (n c : Nat) (hn : n ≤ 4194304) (a many : Int) (ha : 0 ≤ a) (ha2 : a < 4294967296) (w : World) :
    Calls Tryz.prog 149 #[.slice p n c, .int .u32 a, .int .i64 many] w fun e w' => e = .returned (.int .i64 (spanE n a 1 many)) ∧ w = w' := by
  by_cases h1 : many ≠ 1 ∧ many ≠ 4
  · have e0 : spanE n a 1 many = 2 := if_pos (.inr h1)
    have E := mhid e0
    have h2 : (many != 1) = true := by simpa using h1.1
    have h3 : (many != 4) = true := by simpa using h1.2
    clear e0 h1
    go_enter Tryz.func149, Tryz.ntmps149
    go_wp2
    go_ret
    exact ⟨mret_i E.out.symm, rfl⟩
  · have hm : many = 1 ∨ many = 4 := by omega
    clear h1
    rcases hm with rfl | rfl
    · by_cases h2 : (n : Int) < a + 1
      · have E := mhid (show spanE n a 1 1 = 50 by unfold spanE; rw [if_neg (by omega), if_neg (by omega), if_pos (by omega)])
        go_enter Tryz.func149, Tryz.ntmps149
        go_wp2
        go_ret
        exact ⟨mret_i E.out.symm, rfl⟩
      · have E := mhid (show spanE n a 1 1 = 0 by unfold spanE; rw [if_neg (by omega), if_neg (by omega), if_neg (by omega)])
        go_enter Tryz.func149, Tryz.ntmps149
        go_wp2
        go_ret
        exact ⟨mret_i E.out.symm, rfl⟩
    · by_cases h4 : a % 4 = 0
      · by_cases h2 : (n : Int) < a + 4
        · have E := mhid (show spanE n a 1 4 = 50 by unfold spanE; rw [if_neg (by omega), if_neg (by omega), if_pos (by omega)])
          go_enter Tryz.func149, Tryz.ntmps149
          go_wp2
          go_ret
          exact ⟨mret_i E.out.symm, rfl⟩
        · have E := mhid (show spanE n a 1 4 = 0 by unfold spanE; rw [if_neg (by omega), if_neg (by omega), if_neg (by omega)])
          go_enter Tryz.func149, Tryz.ntmps149
          go_wp2
          go_ret
          exact ⟨mret_i E.out.symm, rfl⟩
      · have E := mhid (show spanE n a 1 4 = 51 by unfold spanE; rw [if_neg (by omega), if_pos (by omega)])
        go_enter Tryz.func149, Tryz.ntmps149
        go_wp2
        go_ret
        exact ⟨mret_i E.out.symm, rfl⟩
set_option maxHeartbeats 400000 in
theorem rspan_any (p : Option Addr) (n c : Nat) (hn : n ≤ 4194304) (a many : Int) (ha : 0 ≤ a) (ha2 : a < 4294967296) (hm2 : many ≤ 9223372036854775807) (w : World) :
    Calls Tryz.prog 93 #[.slice p n c, .int .u32 a, .int .i64 many] w fun e w' => e = .returned (.int .i64 (spanE n a many 4)) ∧ w = w' := by
  by_cases h1 : many < 0
  · have E := mhid (show spanE n a many 4 = 2 from if_pos (.inl h1))
    go_enter Tryz.func93, Tryz.ntmps93
    go_wp2
    go_ret
    exact ⟨mret_i E.out.symm, rfl⟩
  · by_cases h4 : a % 4 = 0
    · by_cases h2 : (n : Int) < a
      · have hd : decide ((n : Int) < a) = true := by simpa using h2
        have E := mhid (show spanE n a many 4 = 50 by unfold spanE; rw [if_neg (by omega), if_neg (by omega), if_pos (by omega)])
        go_enter Tryz.func93, Tryz.ntmps93
        go_wp2
        go_ret
        exact ⟨mret_i E.out.symm, rfl⟩
      · have hd : decide ((n : Int) < a) = false := by simpa using h2
        by_cases h3 : ((n : Int) - a) / 4 < many
        · have E := mhid (show spanE n a many 4 = 50 by unfold spanE; rw [if_neg (by omega), if_neg (by omega), if_pos (by omega)])
          go_enter Tryz.func93, Tryz.ntmps93
          go_wp2
          go_ret
          exact ⟨mret_i E.out.symm, rfl⟩
        · have E := mhid (show spanE n a many 4 = 0 by unfold spanE; rw [if_neg (by omega), if_neg (by omega), if_neg (by omega)])
          go_enter Tryz.func93, Tryz.ntmps93
          go_wp2
          go_ret
          exact ⟨mret_i E.out.symm, rfl⟩
    · have E := mhid (show spanE n a many 4 = 51 by unfold spanE; rw [if_neg (by omega), if_pos (by omega)])
      go_enter Tryz.func93, Tryz.ntmps93
      go_wp2
      go_ret
      exact ⟨mret_i E.out.symm, rfl⟩
set_option maxHeartbeats 1000000 in
theorem rload_any (w : World) (B g cap : Nat) (d : List Int) (h : RefAt w B g cap d) (a many : Int) (ha : 0 ≤ a) (ha2 : a < 4294967296) :
    Calls Tryz.prog 94 #[.slice (some ⟨g, 0, none⟩) d.length cap, .int .u32 a, .int .i64 many] w fun e w' => e = .returned (.tuple #[.int .u32 (loadV d a many), .int .i64 (spanE d.length a 1 many)]) ∧ w = w' := by
  have ht := rthere_any (some ⟨g, 0, none⟩) d.length cap h.len a many ha ha2 w
  have HT := mhid ht
  have H := mhid h
  clear ht h
  by_cases he : spanE d.length a 1 many = 0
  · obtain ⟨_, h4, _, h5⟩ := spanE_ok he ha
    have E := mhid he
    have hlen := H.out.len
    obtain ⟨A, rfl⟩ := Int.eq_ofNat_of_zero_le ha
    obtain ⟨M, rfl⟩ : ∃ M : Nat, many = (M : Int) := ⟨many.toNat, by omega⟩
    have hM : M = 1 ∨ M = 4 := by omega
    have hv : loadV d A M = beS d A M := by
      unfold loadV; rw [if_pos he]
      rcases hM with rfl | rfl
      · exact (beS_one d A).symm
      · exact (beS_four d A).symm
    have HV := mhid hv
    have hM4 : M ≤ 4 := by omega
    have hr : A + M ≤ d.length := by rcases hM with rfl | rfl <;> omega
    clear he hv hM h4 h5
    go_enter Tryz.func94, Tryz.ntmps94
    go_wp2_with fail
    refine HT.out.mono ?_
    rw [E.out]
    rintro e w' ⟨rfl, rfl⟩
    clear HT
    go_wp2_with fail
    go_loop [9, 10] (fun x i => ∃ k : Nat, k ≤ M ∧ i = .int .i64 k ∧ x = .int .u32 (beS d A k)) (fun _ i => M - (intOf i).toNat)
    case atStart => exact ⟨0, Nat.zero_le _, rfl, rfl⟩
    case round =>
      obtain ⟨k, hk, rfl, rfl⟩ := hrel
      by_cases hlt : k < M
      · have hkm : (k : Int) < M := by omega
        have hcell := H.out.byte (i := A + k) (by omega)
        have hb := beS_bd H.out.bytes A k (by omega)
        have hb3 := hb.2.2 (by omega)
        have hx := H.out.bytes.at (A + k)
        have hsu : beS d A (k + 1) = beS d A k * 256 + d.getD (A + k) 0 := rfl
        have SU := mhid hsu
        clear hsu
        generalize d.getD (A + k) 0 = y at hcell hx SU
        generalize beS d A k = z at hb hb3 SU ⊢
        go_wp2_with fail
        exact ⟨⟨k + 1, by omega, by go_num, by rw [SU.out]; congr 1; omega⟩, by simp [intOf] <;> omega⟩
      · obtain rfl : k = M := by omega
        go_wp2_with fail
        go_ret2
        exact ⟨mret_ii HV.out.symm E.out.symm, rfl⟩
  · have E := mhid (show loadV d a many = 0 from if_neg he)
    have he2 : (spanE d.length a 1 many != 0) = true := by simpa using he
    clear he
    go_enter Tryz.func94, Tryz.ntmps94
    go_wp2_with fail
    refine HT.out.mono ?_
    generalize hq : spanE d.length a 1 many = q at he2 ⊢
    have HQ := mhid hq
    clear hq
    rintro e w' ⟨rfl, rfl⟩
    clear HT
    go_wp2_with fail
    go_ret2
    exact ⟨mret_ii E.out.symm HQ.out.symm, rfl⟩
end Go.Proofs.YtajholbcpmjhiaaGreatDoor
/- The walks of muntinref05.Store, Put, Words and of muntinlaw05.same. -/
namespace Go.Proofs.YtajholbcpmjhiaaGreatDoor
open Go.RowKit
set_option linter.unusedVariables false
set_option linter.unusedSimpArgs false
/-- What the document's Store gives: the memory then, in memory of the call's own, or the one it was given. -/
def RGives (B g n : Nat) (err : Int) (d2 : List Int) (w : World) (e : Ending) (w' : World) : Prop :=
  ∃ g' cap', e = .returned (.tuple #[.slice (some ⟨g', 0, none⟩) n cap', .int .i64 err]) ∧ RefAt w' B g' cap' d2 ∧ Below w.heap.size w w' ∧ (g' = g ∨ w.heap.size ≤ g')
theorem mret_si {v : Value} {a b : Int} (h : a = b) : Ending.returned (.tuple #[v, .int .i64 a]) = .returned (.tuple #[v, .int .i64 b]) := by rw [h]
/-- The bytes of x from the last to the first, j of them. -/
def setR (d : List Int) (p : Nat) (x : Int) : Nat → List Int
  | 0 => d
  | j + 1 => (setR d p x j).set (p - j) (x / 256 ^ j % 256)
theorem setR_len (d : List Int) (p : Nat) (x : Int) (j : Nat) : (setR d p x j).length = d.length := by
  induction j with
  | zero => rfl
  | succ j ih => simp [setR, ih]
theorem setR_one (d : List Int) (a : Nat) (x : Int) : setR d a x 1 = storeS d a 1 x := by simp [setR, storeS]
theorem setR_four (d : List Int) (a : Nat) (x : Int) : setR d (a + 3) x 4 = storeS d a 4 x := by
  simp [setR, storeS]

theorem div_bd {x : Int} (hx : 0 ≤ x) (hx2 : x < 4294967296) (j : Nat) : 0 ≤ x / 256 ^ j ∧ x / 256 ^ j < 4294967296 :=
  ⟨Int.ediv_nonneg hx (Int.le_of_lt (Int.pow_pos (by decide))), Int.lt_of_le_of_lt (Int.ediv_le_self _ hx) hx2⟩
theorem div_succ (x : Int) (j : Nat) : x / 256 ^ j / 256 = x / 256 ^ (j + 1) := by
  rw [Int.pow_succ, Int.ediv_ediv_of_nonneg (Int.le_of_lt (Int.pow_pos (by decide)))]
set_option maxHeartbeats 1000000 in
set_option maxRecDepth 4000 in
theorem rstore_any (w : World) (B g cap : Nat) (d : List Int) (h : RefAt w B g cap d) (a many : Int) (ha : 0 ≤ a) (ha2 : a < 4294967296) (x : Int) (hx : 0 ≤ x) (hx2 : x < 4294967296) :
    Calls Tryz.prog 130 #[.slice (some ⟨g, 0, none⟩) d.length cap, .int .u32 a, .int .i64 many, .int .u32 x] w (RGives B g d.length (spanE d.length a 1 many) (storeV d a many x) w) := by
  have ht := rthere_any (some ⟨g, 0, none⟩) d.length cap h.len a many ha ha2 w
  have HT := mhid ht
  have H := mhid h
  clear ht h
  by_cases he : spanE d.length a 1 many = 0
  · obtain ⟨_, h4, _, h5⟩ := spanE_ok he ha
    have E := mhid he
    have hlen := H.out.len
    obtain ⟨i0, hi, hz0, hz1, hz2⟩ := info_parts info8
    have hlt := H.out.lt
    have h1 : RefAt (w.alloc (.cells #[] 5)) B g cap d := H.out.keep ((Only.refl (fun _ => False) w).alloc _) id
    have hown : (w.alloc (.cells #[] 5)).ownsRow w.heap.size 5 1 (.slice (some ⟨w.heap.size, 0, none⟩) 0 0) 0 [] := World.ownsRow_lit w #[] 0 (Nat.le_refl _) (by unfold maxLen; omega) rfl
    have hnews := h1.news
    have q1 : (u8s d).length = d.length * 1 := by simp [u8s]
    have q2 : 0 + d.length ≤ maxLen := by unfold maxLen; omega
    have q3 : (0 + d.length) * 1 ≤ 140737488355328 := by omega
    have q4 : w.heap.size ≤ (w.alloc (.cells #[] 5)).heap.size := by simp
    have Q1 := mhid q1
    obtain ⟨A, rfl⟩ := Int.eq_ofNat_of_zero_le ha
    obtain ⟨M, rfl⟩ : ∃ M : Nat, many = (M : Int) := ⟨many.toNat, by omega⟩
    have hM : M = 1 ∨ M = 4 := by omega
    have hv : setR d (A + M - 1) x M = storeV d A M x := by
      unfold storeV; rw [if_pos he]
      rcases hM with rfl | rfl
      · exact setR_one d A x
      · exact setR_four d A x
    have HV := mhid hv
    have hM4 : M ≤ 4 := by omega
    have hM1 : 1 ≤ M := by omega
    have hr : A + M ≤ d.length := by rcases hM with rfl | rfl <;> omega
    clear q1 he h1 hv hM h4 h5
    go_enter Tryz.func130, Tryz.ntmps130
    go_wp2_with fail
    refine HT.out.mono ?_
    rw [E.out]
    rintro e w' ⟨rfl, rfl⟩
    clear HT
    go_wp2_with (at_builtin; refine wpList_append_own _ rfl _ _ 56 rfl w.heap.size 5 i0 (.int .u8 0) 1 1 Tryz.underlying56 hi hz0 hz1 hz2 rfl (by decide) _ 0 [] rfl hown ⟨g, 0, none⟩ d.length cap (u8s d) rfl Q1.out hnews u8s_one q2 q3 q4 ?_; intro v' w1 hown1 hgrow1 hnil; have hown2 := own_tail (k := 0) hown1; obtain ⟨g2, cap2, rfl, hg2⟩ := own_some hown2 (fun e => by cases (hnil.1 e).1))
    have hb1 : Below w.heap.size w w1 := ((Below.refl _ w).alloc (Nat.le_refl _) _).grown hgrow1 q4 (fun k e => by cases e; exact Nat.le_refl _)
    have hR : RefAt w1 w.heap.size g2 cap2 d := ⟨hown2, H.out.bytes, hlen⟩
    have G1 := mhid (And.intro hb1 hR)
    clear hb1 hR hown2 hown1 hnil hgrow1 hown hnews q2 q3 q4
    go_loopw [3, 12] (fun y i wr => ∃ (j : Nat) (t : Int), j ≤ M ∧ t = (M : Int) - 1 - j ∧ i = .int .i64 t ∧ y = .int .u32 (x / 256 ^ j) ∧ RefAt wr w.heap.size g2 cap2 (setR d (A + M - 1) x j) ∧ Below w.heap.size w wr) (fun _ i _ => (intOf i + 1).toNat)
    case atStart => exact ⟨0, (M : Int) - 1, Nat.zero_le _, by omega, by go_num, by simp, G1.out.2, G1.out.1⟩
    case round =>
      obtain ⟨j, t, hj, ht, rfl, rfl, href, hbl⟩ := hrel
      by_cases hlt : j < M
      · obtain ⟨T, rfl⟩ : ∃ T : Nat, t = T := ⟨t.toNat, by omega⟩
        have hT : A + M - 1 - j = A + T := by omega
        have hdv := div_bd hx hx2 j
        have hds := div_succ x j
        have hln := setR_len d (A + M - 1) x j
        have hset : setR d (A + M - 1) x (j + 1) = (setR d (A + M - 1) x j).set (A + T) (x / 256 ^ j % 256) := by rw [← hT]; rfl
        have SE := mhid hset
        have DS := mhid hds
        clear hset hds
        generalize x / 256 ^ j = y at hdv SE DS
        have hstep := href.set (i := A + T) (by omega) (x := y % 256) (by omega)
        have hcell := href.byte (i := A + T) (by omega)
        have hfree := href.free (A + T)
        have hbl2 := hbl.setCell (p := ⟨g2, A + T, none⟩) hg2 (.int .u8 (y % 256))
        rw [← SE.out] at hstep
        have G2 := mhid (And.intro hstep hbl2)
        clear hstep hbl2 href hbl SE
        generalize (setR d (A + M - 1) x j).getD (A + T) 0 = old at hcell
        have JT := mhid (And.intro hj (And.intro ht (And.intro hT hln)))
        clear hj ht hT hln hlt
        have hTl : (A : Int) + T < d.length := by have := JT.out; omega
        go_wp2_with fail
        have J := JT.out
        exact ⟨⟨j + 1, (T : Int) - 1, by omega, by omega, rfl, by rw [DS.out], G2.out.1, G2.out.2⟩, by simp [intOf] <;> omega⟩
      · obtain rfl : j = M := by omega
        obtain rfl : t = -1 := by omega
        clear ht hj hlt hr hM1 hM4
        go_wp2_with fail
        go_ret2
        exact ⟨g2, cap2, mret_si E.out.symm, by rw [← HV.out]; exact href.base (by omega), hbl, .inr hg2⟩
  · have E := mhid (show storeV d a many x = d from if_neg he)
    have he2 : (spanE d.length a 1 many != 0) = true := by simpa using he
    clear he
    go_enter Tryz.func130, Tryz.ntmps130
    go_wp2_with fail
    refine HT.out.mono ?_
    generalize hq : spanE d.length a 1 many = q at he2 ⊢
    have HQ := mhid hq
    clear hq
    rintro e w' ⟨rfl, rfl⟩
    clear HT
    go_wp2_with fail
    go_ret2
    exact ⟨g, cap, mret_si HQ.out.symm, by rw [E.out]; exact H.out, Below.refl _ _, .inl rfl⟩
end Go.Proofs.YtajholbcpmjhiaaGreatDoor
/- The walks of muntinref05.Put, Words and of muntinlaw05.same. -/
namespace Go.Proofs.YtajholbcpmjhiaaGreatDoor
open Go.RowKit
set_option linter.unusedVariables false
set_option linter.unusedSimpArgs false
theorem keepm {S : Nat} {a b : World} {p : Addr} {v : Value} (hb : Below S a b) (hp : p.block < S) (h : a.cell? p = some v) : b.cell? p = some v := (hb.cell hp).trans h
set_option maxHeartbeats 1000000 in
theorem mrput_any (w : World) (B g cap : Nat) (d : List Int) (h : RefAt w B g cap d) (a : Int) (ha : 0 ≤ a) (ha2 : a < 4294967296) (v : Value) (l : List Int) (hl : l.length ≤ maxLen) (hv : U32s (fun _ => False) w v l) :
    Calls Tryz.prog 70 #[.slice (some ⟨g, 0, none⟩) d.length cap, .int .u32 a, v] w (RGives B g d.length (spanE d.length a l.length 4) (putV d a l) w) := by
  unfold maxLen at hl
  have hs := rspan_any (some ⟨g, 0, none⟩) d.length cap h.len a l.length ha ha2 (by omega) w
  have HS := mhid hs
  have H := mhid h
  have hB := h.lt
  clear hs h
  obtain ⟨hw, p, c, rfl, hv⟩ := hv
  have HV := mhid hv
  clear hv
  by_cases he : spanE d.length a l.length 4 = 0
  · obtain ⟨_, _, h4, h5⟩ := spanE_ok he ha
    have HE := mhid he
    have hlen0 := H.out.len
    have h4' := h4
    clear he
    obtain ⟨A, rfl⟩ := Int.eq_ofNat_of_zero_le ha
    go_enter Tryz.func70, Tryz.ntmps70
    go_wp2_with fail
    refine HS.out.mono ?_
    rw [HE.out]
    rintro e w' ⟨rfl, rfl⟩
    clear HS
    go_wp2_with fail
    go_loopw [0, 9] (fun mm i wr => ∃ k g' cap', k ≤ l.length ∧ i = .int .i64 (k : Nat) ∧ mm = .slice (some ⟨g', 0, none⟩) d.length cap' ∧ RefAt wr B g' cap' (putS d A (l.take k)) ∧ Below w.heap.size w wr ∧ (g' = g ∨ w.heap.size ≤ g')) (fun _ i _ => l.length - (intOf i).toNat)
    case atStart => exact ⟨0, g, cap, Nat.zero_le _, rfl, rfl, H.out, Below.refl _ _, .inl rfl⟩
    case round =>
      obtain ⟨k, g', cap', hk, rfl, rfl, href, hbl, hgg⟩ := hrel
      by_cases hlt : k < l.length
      · obtain ⟨b, o, rfl, _, hb2, hc⟩ := HV.out (by omega)
        have hcell : wr.cell? ⟨b, o + k, none⟩ = some (.int .u32 (l.getD k 0)) := keepm hbl hb2 (hc k hlt)
        have hx := hw.at k
        have hlen2 := putS_len (l.take k) d A
        have e4 : spanE d.length ((A : Int) + 4 * (k : Int)) 1 4 = 0 := by unfold spanE; rw [if_neg (by omega), if_neg (by omega), if_neg (by omega)]
        have hst := rstore_any wr B g' cap' _ href ((A : Int) + 4 * (k : Int)) 4 (by omega) (by omega) (l.getD k 0) hx.1 hx.2
        rw [hlen2] at hst
        rw [e4] at hst
        rw [show storeV (putS d A (l.take k)) ((A : Int) + 4 * (k : Int)) 4 (l.getD k 0) = putS d A (l.take (k + 1)) from by rw [putS_take l d A k hlt]; unfold storeV; rw [hlen2, if_pos e4]; congr 1] at hst
        have HT := mhid hst
        have HB := mhid hbl
        clear hst hbl e4 href hlen2 hc HV
        generalize l.getD k 0 = x at hcell hx HT
        have hk4 : (k : Int) < l.length := by omega
        go_wp2_with fail
        refine HT.out.mono ?_
        rintro e w' ⟨g2, cap2, rfl, href2, hb2', hgg2⟩
        have hb3 : Below w.heap.size w w' := HB.out.trans (hb2'.mono HB.out.size)
        have hg3 : g2 = g ∨ w.heap.size ≤ g2 := by
          have := HB.out.size
          rcases hgg2 with rfl | h3
          · exact hgg
          · exact .inr (by omega)
        have G := mhid (And.intro href2 (And.intro hb3 hg3))
        clear href2 hb2' hgg2 hb3 hg3 HT HB
        go_wp2_with fail
        go_roundw
        case rel => exact ⟨k + 1, g2, cap2, by omega, by go_num, rfl, G.out.1, G.out.2.1, G.out.2.2⟩
        case measure => simp [intOf] <;> omega
      · obtain rfl : k = l.length := by omega
        go_wp2_with fail
        go_ret2
        refine ⟨g', cap', mret_si HE.out.symm, ?_, hbl, hgg⟩
        rw [show putV d (A : Int) l = putS d A l from if_pos HE.out]
        rw [List.take_length] at href
        exact href
  · have E := mhid (show putV d a l = d from if_neg he)
    have he2 : (spanE d.length a l.length 4 != 0) = true := by simpa using he
    clear he
    go_enter Tryz.func70, Tryz.ntmps70
    go_wp2_with fail
    refine HS.out.mono ?_
    generalize hq : spanE d.length a l.length 4 = q at he2 ⊢
    have HQ := mhid hq
    clear hq
    rintro e w' ⟨rfl, rfl⟩
    clear HS
    go_wp2_with fail
    go_ret2
    exact ⟨g, cap, mret_si HQ.out.symm, by rw [E.out]; exact H.out, Below.refl _ _, .inl rfl⟩
set_option maxHeartbeats 1000000 in
theorem mrwords_any (w : World) (B g cap : Nat) (d : List Int) (h : RefAt w B g cap d) (a : Int) (ha : 0 ≤ a) (ha2 : a < 4294967296) (n : Int) (hn : n ≤ 9223372036854775807) :
    Calls Tryz.prog 32 #[.slice (some ⟨g, 0, none⟩) d.length cap, .int .u32 a, .int .i64 n] w (Tells d a n w) := by
  have hs := rspan_any (some ⟨g, 0, none⟩) d.length cap h.len a n ha ha2 hn w
  have HS := mhid hs
  have H := mhid h
  have hlen := h.len
  have hB := h.lt
  clear hs h
  obtain ⟨i0, hi, hz0, hz1, hz2⟩ := info_parts info32
  by_cases he : spanE d.length a n 4 = 0
  · obtain ⟨h3, _, h4, h5⟩ := spanE_ok he ha
    have HE := mhid he
    clear he
    obtain ⟨N, rfl⟩ := Int.eq_ofNat_of_zero_le h3
    obtain ⟨A, rfl⟩ := Int.eq_ofNat_of_zero_le ha
    clear h3 hn
    go_enter Tryz.func32, Tryz.ntmps32
    go_wp2_with fail
    refine HS.out.mono ?_
    rw [HE.out]
    rintro e w' ⟨rfl, rfl⟩
    clear HS
    go_wp2_with fail
    go_loopw [9, 10] (fun v i wr => ∃ k : Nat, k ≤ N ∧ i = .int .i64 k ∧ wr.ownsRow w.heap.size 24 1 v k (u32s (wordsS d A k)) ∧ Below w.heap.size w wr) (fun _ i _ => N - (intOf i).toNat)
    case atStart => exact ⟨0, Nat.zero_le _, rfl, World.ownsRow_nil _ _ _ _, Below.refl _ _⟩
    case round =>
      obtain ⟨k, hk, rfl, hown, hbl⟩ := hrel
      by_cases hlt : k < N
      · have href : RefAt wr B g cap d := H.out.keep (Only.of_below (S := fun _ => False) hbl) id
        have q2 : k + 1 ≤ maxLen := by unfold maxLen; omega
        have q3 : (k + 1) * 4 ≤ 140737488355328 := by omega
        have q4 := hbl.size
        have q5 : w.heap.size ≤ wr.heap.size + 1 := by omega
        have hx := loadS_bd H.out.bytes (A + 4 * k) 4
        have e4 : spanE d.length ((A : Int) + 4 * (k : Int)) 1 4 = 0 := by unfold spanE; rw [if_neg (by omega), if_neg (by omega), if_neg (by omega)]
        have hwd := rload_any wr B g cap d href ((A : Int) + 4 * (k : Int)) 4 (by omega) (by omega)
        rw [show loadV d ((A : Int) + 4 * (k : Int)) 4 = loadS d (A + 4 * k) 4 from by unfold loadV; rw [if_pos e4]; congr 1] at hwd
        rw [e4] at hwd
        have hsu := wordsS_succ d A k
        have HSU := mhid hsu
        have HW := mhid hwd
        have HB := mhid hbl
        clear hsu hwd href hbl e4
        generalize loadS d (A + 4 * k) 4 = x at hx HSU HW
        have hk4 : (k : Int) < N := by omega
        go_wp2_with fail
        refine HW.out.mono ?_
        rintro e w' ⟨rfl, rfl⟩
        clear HW
        go_wp2_with (at_builtin; refine wpList_append_own _ rfl _ _ 22 rfl w.heap.size 24 i0 (.int .u32 0) 1 4 Tryz.underlying22 hi hz0 hz1 hz2 rfl (by decide) _ k (u32s (wordsS d A k)) rfl (hown.alloc _) ⟨wr.heap.size, 0, none⟩ 1 1 [.int .u32 x] rfl rfl (cell_one_new _ _ _) (by simp [Value.oneCell']) q2 q3 (by simpa using q5) ?_; intro v' w1 hown1 hgrow1 hnil)
        have hb1 : Below w.heap.size w w1 := (HB.out.alloc q4 _).grown hgrow1 (by simpa using q5) (fun r e => ((hown.alloc (.cells #[.int .u32 x] 24)).lt r e).1)
        go_roundw
        case rel => exact ⟨k + 1, by omega, by go_num, by rw [HSU.out]; simpa [u32s] using hown1, hb1⟩
        case measure => simp [intOf] <;> omega
      · obtain rfl : k = N := by omega
        go_wp2_with fail
        go_ret2
        exact ⟨_, wordsS d A k, tell_ret HE.out.symm, by rw [if_pos HE.out]; rfl, by rw [wordsS_len]; exact hown, hbl⟩
  · have E := mhid he
    have he2 : (spanE d.length a n 4 != 0) = true := by simpa using he
    clear he
    go_enter Tryz.func32, Tryz.ntmps32
    go_wp2_with fail
    refine HS.out.mono ?_
    generalize hq : spanE d.length a n 4 = q at he2 ⊢
    have HQ := mhid hq
    clear hq
    rintro e w' ⟨rfl, rfl⟩
    clear HS
    go_wp2_with fail
    go_ret2
    exact ⟨_, [], tell_ret HQ.out.symm, by rw [if_neg E.out], own_nil _ _, Below.refl _ _⟩
end Go.Proofs.YtajholbcpmjhiaaGreatDoor
