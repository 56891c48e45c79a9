/- Several texts in one: VRow, ARow, FileAt, FileSet, FileWin, HandOps. -/
import Derived.Test.YtajholbcpmjhiaaGreatDoorH08
import Derived.Laws.Rows
import Derived.IntWalk
import Derived.Laws.CopyOwn
import Derived.Great.Ranges
set_option linter.unusedVariables false
set_option linter.unusedSimpArgs false
/- Rows of cells that the call made. No function of the program is walked here. -/
namespace Go.Proofs.YtajholbcpmjhiaaGreatDoor
open Go.RowKit
def VRow (w : World) (g : Nat) (t : TypeId) (vs : List Value) : Prop :=
  ∃ cur : Array Value, w.heap[g]? = some (.cells cur t (0, 0)) ∧ ∀ (k : Nat) x, vs[k]? = some x → cur[k]? = some x
namespace VRow
variable {w w' : World} {g : Nat} {t : TypeId} {vs : List Value}
theorem cell (h : VRow w g t vs) {k : Nat} {x : Value} (hx : vs[k]? = some x) : w.cell? ⟨g, k, none⟩ = some x := by
  obtain ⟨cur, hb, hc⟩ := h
  simp [World.cell?, hb, hc k x hx]
theorem frozen (h : VRow w g t vs) (k : Nat) : w.frozen? ⟨g, k, none⟩ = false := by
  obtain ⟨cur, hb, _⟩ := h
  simp [World.frozen?, hb]
theorem lt (h : VRow w g t vs) : g < w.heap.size := by
  obtain ⟨cur, hb, _⟩ := h
  exact (Array.getElem?_eq_some_iff.1 hb).1
theorem of_block (h : VRow w g t vs) (e : w'.heap[g]? = w.heap[g]?) : VRow w' g t vs := by
  obtain ⟨cur, hb, hc⟩ := h
  exact ⟨cur, e.trans hb, hc⟩
theorem keep {B : Nat} (h : VRow w g t vs) (hb : Below B w w') (hg : g < B) : VRow w' g t vs := h.of_block (hb.block g hg)
theorem below (h : VRow w g t vs) (hb : Below w.heap.size w w') : VRow w' g t vs := h.keep hb h.lt
theorem set (h : VRow w g t vs) {k : Nat} (hk : k < vs.length) (v : Value) : VRow (w.setCell ⟨g, k, none⟩ v) g t (vs.set k v) := by
  obtain ⟨cur, hb, hc⟩ := h
  have hk' : k < cur.size := by
    have := hc k _ (List.getElem?_eq_getElem hk)
    exact (Array.getElem?_eq_some_iff.1 this).1
  refine ⟨cur.setIfInBounds k v, ?_, fun j x hx => ?_⟩
  · simp [World.setCell, Array.getElem?_modify, hb]
  · rw [Array.getElem?_setIfInBounds]
    by_cases e : k = j
    · subst e
      rw [List.getElem?_set_self hk] at hx
      simp [hk', hx]
    · rw [if_neg e]
      rw [List.getElem?_set_ne e] at hx
      exact hc j x hx
theorem other (h : VRow w g t vs) {a : Addr} (ha : g ≠ a.block) (v : Value) : VRow (w.setCell a v) g t vs := h.of_block (Below.heap_setCell _ _ _ _ ha)
theorem alloc (h : VRow w g t vs) (o : Obj) : VRow (w.alloc o) g t vs := h.of_block (Below.heap_alloc _ _ _ h.lt)
theorem of_own {base n : Nat} {v : Value} {xs : List Value} (h : w.ownsRow base t 1 v n xs) (hv : v ≠ .slice none 0 0) : ∃ g c, v = .slice (some ⟨g, 0, none⟩) n c ∧ base ≤ g ∧ VRow w g t xs := by
  rcases h.2 with ⟨rfl, _⟩ | ⟨g, cap, cur, rfl, h2, h3, h4, h5, h6, h7⟩
  · exact absurd rfl hv
  · refine ⟨g, cap, rfl, h2, cur, h3, fun k x hx => ?_⟩
    rw [← h7] at hx
    rw [List.getElem?_take] at hx
    split at hx
    · rw [← Array.getElem?_toList]; exact hx
    · cases hx
end VRow
end Go.Proofs.YtajholbcpmjhiaaGreatDoor
/- A block that is known whole. No function of the program is walked here. -/
namespace Go.Proofs.YtajholbcpmjhiaaGreatDoor
open Go.RowKit
def ARow (w : World) (g : Nat) (t : TypeId) (vs : List Value) : Prop := w.heap[g]? = some (.cells vs.toArray t (0, 0))
namespace ARow
variable {w w' : World} {g : Nat} {t : TypeId} {vs : List Value}
theorem vrow (h : ARow w g t vs) : VRow w g t vs := ⟨_, h, fun k x hx => by simpa using hx⟩
theorem cell (h : ARow w g t vs) {k : Nat} {x : Value} (hx : vs[k]? = some x) : w.cell? ⟨g, k, none⟩ = some x := h.vrow.cell hx
theorem frozen (h : ARow w g t vs) (k : Nat) : w.frozen? ⟨g, k, none⟩ = false := h.vrow.frozen k
theorem lt (h : ARow w g t vs) : g < w.heap.size := h.vrow.lt
theorem of_block (h : ARow w g t vs) (e : w'.heap[g]? = w.heap[g]?) : ARow w' g t vs := e.trans h
theorem below (h : ARow w g t vs) (hb : Below w.heap.size w w') : ARow w' g t vs := h.of_block (hb.block g h.lt)
theorem set (h : ARow w g t vs) (k : Nat) (v : Value) : ARow (w.setCell ⟨g, k, none⟩ v) g t (vs.set k v) := by
  unfold ARow at *
  rw [obj_setCell h]
  simp
theorem other (h : ARow w g t vs) {a : Addr} (ha : g ≠ a.block) (v : Value) : ARow (w.setCell a v) g t vs := h.of_block (Below.heap_setCell _ _ _ _ ha)
theorem alloc (h : ARow w g t vs) (o : Obj) : ARow (w.alloc o) g t vs := h.of_block (Below.heap_alloc _ _ _ h.lt)
theorem fresh (w : World) (t : TypeId) (cs : Array Value) : ARow (w.alloc (.cells cs t)) w.heap.size t cs.toList := heap_alloc_new w _
end ARow
end Go.Proofs.YtajholbcpmjhiaaGreatDoor
/- The register file as it lies in the world; the walks of the package file. -/
namespace Go.Proofs.YtajholbcpmjhiaaGreatDoor
open Go.RowKit
structure FileAt (w : World) (F Wb cap : Nat) (f : Fx) : Prop where
  ok : f.ok
  cells : ARow w F 111 (.int .i64 f.nw :: .slice (some ⟨Wb, 0, none⟩) (16 * f.nw) cap :: u32s f.glo)
  win : VRow w Wb 24 (u32s f.win)
  ne : F ≠ Wb
  c1 : 16 * f.nw ≤ cap
  c2 : cap ≤ maxLen
theorem u32s_get {l : List Int} {k : Nat} (h : k < l.length) : (u32s l)[k]? = some (.int .u32 (l.getD k 0)) := by
  simp [u32s, h, List.getD_eq_getElem?_getD]
theorem u32s_set (l : List Int) (k : Nat) (x : Int) : (u32s l).set k (.int .u32 x) = u32s (l.set k x) := by
  unfold u32s; rw [List.map_set]
theorem FileAt.keep {S : Nat → Prop} {w w' : World} {F Wb cap : Nat} {f : Fx} (h : FileAt w F Wb cap f) (o : Only S w w') (h1 : ¬ S F) (h2 : ¬ S Wb) : FileAt w' F Wb cap f :=
  ⟨h.ok, h.cells.of_block (o.block F h.cells.lt h1), h.win.of_block (o.block Wb h.win.lt h2), h.ne, h.c1, h.c2⟩
theorem FileAt.keepb {w w' : World} {F Wb cap : Nat} {f : Fx} (h : FileAt w F Wb cap f) (hb : Below w.heap.size w w') : FileAt w' F Wb cap f := h.keep (Only.of_below (S := fun _ => False) hb) id id
def regA (f : Fx) (F Wb w b r : Nat) : Addr :=
  if r < 8 then ⟨F, 2 + b * 8 + r, none⟩ else if r < 16 then ⟨Wb, 16 * ((w + f.nw - 1) % f.nw) + r, none⟩ else ⟨Wb, 16 * w + (r - 16), none⟩
theorem FileAt.reg {W : World} {F Wb cap : Nat} {f : Fx} (h : FileAt W F Wb cap f) {w b r : Nat} (hw : w < f.nw) (hb : b < 17) (hr : r < 32) :
    ∃ x, W.cell? (regA f F Wb w b r) = some (.int .u32 x) ∧ W.frozen? (regA f F Wb w b r) = false ∧ (0 < r → x = getF f w b r) := by
  have hg := h.ok.gl
  have hl := h.ok.wl
  have hm : (w + f.nw - 1) % f.nw < f.nw := Nat.mod_lt _ (by omega)
  unfold regA getF
  by_cases h8 : r < 8
  · rw [if_pos h8]
    refine ⟨f.glo.getD (b * 8 + r) 0, h.cells.cell (k := 2 + b * 8 + r) (by rw [show 2 + b * 8 + r = (b * 8 + r) + 1 + 1 by omega]; exact u32s_get (by omega)), h.cells.frozen _, fun h0 => by rw [if_neg (by omega), if_pos h8]⟩
  · rw [if_neg h8]
    by_cases h16 : r < 16
    · rw [if_pos h16]
      exact ⟨_, h.win.cell (u32s_get (by omega)), h.win.frozen _, fun h0 => by rw [if_neg (by omega), if_neg h8, if_pos h16]⟩
    · rw [if_neg h16]
      exact ⟨_, h.win.cell (u32s_get (by omega)), h.win.frozen _, fun h0 => by rw [if_neg (by omega), if_neg h8, if_neg h16]⟩
theorem FileAt.put {W : World} {F Wb cap : Nat} {f : Fx} (h : FileAt W F Wb cap f) {w b r : Nat} (hw : w < f.nw) (hb : b < 17) (hr : r < 32) (h0 : 0 < r) {x : Int} (hx : 0 ≤ x ∧ x < 4294967296) :
    FileAt (W.setCell (regA f F Wb w b r) (.int .u32 x)) F Wb cap (setF f w b r x) := by
  have hok := h.ok.sF w b r hx
  have hg := h.ok.gl
  have hl := h.ok.wl
  have hm : (w + f.nw - 1) % f.nw < f.nw := Nat.mod_lt _ (by omega)
  unfold setF at hok ⊢
  unfold regA
  rw [if_neg (show ¬ r = 0 by omega)] at hok ⊢
  by_cases h8 : r < 8
  · simp only [if_pos h8] at hok ⊢
    refine ⟨hok, ?_, h.win.other (a := ⟨F, _, none⟩) (fun e => h.ne e.symm) _, h.ne, h.c1, h.c2⟩
    have := h.cells.set (2 + b * 8 + r) (.int .u32 x)
    rw [show 2 + b * 8 + r = (b * 8 + r) + 1 + 1 by omega] at this ⊢
    rw [List.set_cons_succ, List.set_cons_succ, u32s_set] at this
    exact this
  · simp only [if_neg h8] at hok ⊢
    by_cases h16 : r < 16
    · simp only [if_pos h16] at hok ⊢
      have := h.win.set (k := 16 * ((w + f.nw - 1) % f.nw) + r) (by simp [u32s]; omega) (.int .u32 x)
      rw [u32s_set] at this
      exact ⟨hok, h.cells.other (a := ⟨Wb, _, none⟩) h.ne _, this, h.ne, h.c1, h.c2⟩
    · simp only [if_neg h16] at hok ⊢
      have := h.win.set (k := 16 * w + (r - 16)) (by simp [u32s]; omega) (.int .u32 x)
      rw [u32s_set] at this
      exact ⟨hok, h.cells.other (a := ⟨Wb, _, none⟩) h.ne _, this, h.ne, h.c1, h.c2⟩
theorem regA_block (f : Fx) (F Wb w b r : Nat) : (regA f F Wb w b r).block = F ∨ (regA f F Wb w b r).block = Wb := by
  unfold regA; split; exact .inl rfl; split <;> exact .inr rfl
/-! The walks. -/
theorem fnone_made (w : World) (F : Nat) (n : Nat) (h0 : 0 < n) (h : w.cell? ⟨F, 0, none⟩ = some (.int .i64 n)) : Calls Tryz.prog 126 #[.pointer (some ⟨F, 0, none⟩)] w fun e w' => e = .returned (.bool false) ∧ w = w' := by
  have h1 : ((n : Int) == 0) = false := by simp; omega
  go_enter Tryz.func126, Tryz.ntmps126
  go_wp2
  go_ret
  exact ⟨rfl, rfl⟩
theorem ret_addr {a b : Addr} (h : a = b) : Ending.returned (.pointer (some a)) = .returned (.pointer (some b)) := by rw [h]
set_option maxHeartbeats 1000000 in
theorem place_any (W : World) (F Wb cap : Nat) (f : Fx) (h : FileAt W F Wb cap f) (w b r : Nat) (hw : w < f.nw) (hb : b < 17) (hr : r < 32) :
    Calls Tryz.prog 59 #[.pointer (some ⟨F, 0, none⟩), .int .i64 w, .int .i64 b, .int .i64 r] W fun e w' => e = .returned (.pointer (some (regA f F Wb w b r))) ∧ ∃ n, w' = W.drewN n := by
  have c0 : W.cell? ⟨F, 0, none⟩ = some (.int .i64 f.nw) := h.cells.cell (k := 0) rfl
  have c1 : W.cell? ⟨F, 1, none⟩ = some (.slice (some ⟨Wb, 0, none⟩) (16 * f.nw) cap) := h.cells.cell (k := 1) rfl
  have hn := h.ok.nw32
  have hn2 := h.ok.nw2
  clear h
  by_cases h8 : r < 8
  · have HR := mhid (show regA f F Wb w b r = ⟨F, 2 + b * 8 + r, none⟩ from by unfold regA; rw [if_pos h8])
    have g1 : (r : Int) < 8 := by omega
    go_enter Tryz.func59, Tryz.ntmps59
    go_wp2_with fail
    go_ret
    exact ⟨ret_addr HR.out.symm, 0, rfl⟩
  · have g1 : ¬ (r : Int) < 8 := by omega
    by_cases h16 : r < 16
    · have HR := mhid (show regA f F Wb w b r = ⟨Wb, 16 * ((w + f.nw - 1) % f.nw) + r, none⟩ from by unfold regA; rw [if_neg h8, if_pos h16])
      have g2 : (r : Int) < 16 := by omega
      have hm : (w + f.nw - 1) % f.nw < f.nw := Nat.mod_lt _ (by omega)
      have e1 : IntKind.i64.wrap ((w : Int) + f.nw) = w + f.nw := IntWalk.i64_in _ (by omega)
      have e2 : IntKind.i64.wrap ((w : Int) + f.nw - 1) = ((w + f.nw - 1 : Nat) : Int) := by rw [IntWalk.i64_in _ (by omega)]; omega
      have e3 : (((w + f.nw - 1 : Nat) : Int)).tmod (f.nw : Int) = (((w + f.nw - 1) % f.nw : Nat) : Int) := by rw [Int.tmod_eq_emod_of_nonneg (by omega)]; omega
      generalize (w + f.nw - 1) % f.nw = q at *
      generalize w + f.nw - 1 = q0 at *
      have e4 : IntKind.i64.wrap (q : Int) = q := IntWalk.i64_in _ (by omega)
      have e5 : ¬ ((f.nw : Int) = 0) := by omega
      go_enter Tryz.func59, Tryz.ntmps59
      go_wp2_with fail
      go_quiet (fail)
      go_wp2_with fail
      go_ret
      exact ⟨ret_addr HR.out.symm, _, rfl⟩
    · have HR := mhid (show regA f F Wb w b r = ⟨Wb, 16 * w + (r - 16), none⟩ from by unfold regA; rw [if_neg h8, if_neg h16])
      have g2 : ¬ (r : Int) < 16 := by omega
      go_enter Tryz.func59, Tryz.ntmps59
      go_wp2_with fail
      go_ret
      exact ⟨ret_addr (by rw [HR.out]; congr 1; omega), 0, rfl⟩
set_option maxHeartbeats 1000000 in
theorem fat_err (W : World) (F Wb cap : Nat) (f : Fx) (h : FileAt W F Wb cap f) (w b r : Int) (hx : ¬ regOk f w b r) (fn : Value) :
    Calls Tryz.prog 58 #[.pointer (some ⟨F, 0, none⟩), .int .i64 w, .int .i64 b, .int .i64 r, fn] W fun e w' => e = .returned (.tuple #[.pointer none, .int .i64 2]) ∧ W = w' := by
  have c0 : W.cell? ⟨F, 0, none⟩ = some (.int .i64 f.nw) := h.cells.cell (k := 0) rfl
  have HN := mhid (fnone_made W F f.nw (by have := h.ok.nw2; omega) c0)
  clear h
  have hc : w < 0 ∨ (¬ w < 0 ∧ (f.nw : Int) ≤ w) ∨ ((¬ w < 0 ∧ ¬ (f.nw : Int) ≤ w) ∧ b < 0) ∨ ((¬ w < 0 ∧ ¬ (f.nw : Int) ≤ w ∧ ¬ b < 0) ∧ 17 ≤ b) ∨ ((¬ w < 0 ∧ ¬ (f.nw : Int) ≤ w ∧ ¬ b < 0 ∧ ¬ 17 ≤ b) ∧ r < 0) ∨ ((¬ w < 0 ∧ ¬ (f.nw : Int) ≤ w ∧ ¬ b < 0 ∧ ¬ 17 ≤ b ∧ ¬ r < 0) ∧ 32 ≤ r) := by unfold regOk at hx; omega
  clear hx
  rcases hc with d1 | ⟨d1, d2⟩ | ⟨⟨d1, d2⟩, d3⟩ | ⟨⟨d1, d2, d3⟩, d4⟩ | ⟨⟨d1, d2, d3, d4⟩, d5⟩ | ⟨⟨d1, d2, d3, d4, d5⟩, d6⟩
  all_goals
    go_enter Tryz.func58, Tryz.ntmps58
    go_wp2_with fail
    refine HN.out.mono ?_
    rintro e w' ⟨rfl, rfl⟩
    go_wp2_with fail
    go_ret2
    exact ⟨rfl, rfl⟩
set_option maxHeartbeats 1000000 in
theorem fat_ok (W : World) (F Wb cap : Nat) (f : Fx) (h : FileAt W F Wb cap f) (w b r : Nat) (hw : w < f.nw) (hb : b < 17) (hr : r < 32) :
    Calls Tryz.prog 58 #[.pointer (some ⟨F, 0, none⟩), .int .i64 w, .int .i64 b, .int .i64 r, .func (.func 59) #[.pointer (some ⟨F, 0, none⟩)] #[]] W fun e w' => e = .returned (.tuple #[.pointer (some (regA f F Wb w b r)), .int .i64 0]) ∧ ∃ n, w' = W.drewN n := by
  have c0 : W.cell? ⟨F, 0, none⟩ = some (.int .i64 f.nw) := h.cells.cell (k := 0) rfl
  have HN := mhid (fnone_made W F f.nw (by have := h.ok.nw2; omega) c0)
  have HP := mhid (place_any W F Wb cap f h w b r hw hb hr)
  clear h
  have d1 : ¬ ((w : Int) < 0) := by omega
  have d2 : ¬ ((f.nw : Int) ≤ w) := by omega
  have d3 : ¬ ((b : Int) < 0) := by omega
  have d4 : ¬ (17 ≤ (b : Int)) := by omega
  have d5 : ¬ ((r : Int) < 0) := by omega
  have d6 : ¬ (32 ≤ (r : Int)) := by omega
  go_enter Tryz.func58, Tryz.ntmps58
  go_wp2_with fail
  refine HN.out.mono ?_
  rintro e w' ⟨rfl, rfl⟩
  go_wp2_with fail
  refine HP.out.mono ?_
  rintro e w' ⟨rfl, n, rfl⟩
  go_wp2_with fail
  go_ret2
  exact ⟨rfl, n, rfl⟩
theorem fget_any (W : World) (F Wb cap : Nat) (f : Fx) (h : FileAt W F Wb cap f) (w b r : Int) :
    Calls Tryz.prog 14 #[.pointer (some ⟨F, 0, none⟩), .int .i64 w, .int .i64 b, .int .i64 r] W fun e w' => e = .returned (.tuple #[.int .u32 (getV f w b r), .int .i64 (regE f w b r)]) ∧ ∃ n, w' = W.drewN n := by
  by_cases hx : regOk f w b r
  · have E := mhid (show getV f w b r = getF f w.toNat b.toNat r.toNat ∧ regE f w b r = 0 from ⟨if_pos hx, if_pos hx⟩)
    obtain ⟨⟨a1, a2⟩, ⟨a3, a4⟩, a5, a6⟩ := hx
    obtain ⟨w, rfl⟩ := Int.eq_ofNat_of_zero_le a1
    obtain ⟨b, rfl⟩ := Int.eq_ofNat_of_zero_le a3
    obtain ⟨r, rfl⟩ := Int.eq_ofNat_of_zero_le a5
    rw [Int.toNat_natCast, Int.toNat_natCast, Int.toNat_natCast] at E
    have HP := mhid (fat_ok W F Wb cap f h w b r (by omega) (by omega) (by omega))
    obtain ⟨x, hc, -, he⟩ := h.reg (w := w) (b := b) (r := r) (by omega) (by omega) (by omega)
    have HE := mhid he
    clear he h
    by_cases h0 : r = 0
    · have HZ := mhid (show getF f w b r = 0 from if_pos h0)
      have q0 : ((r : Int) == 0) = true := by simp [h0]
      have H0 := mhid h0
      clear h0 hc
      go_enter Tryz.func14, Tryz.ntmps14
      go_wp2_with fail
      refine HP.out.mono ?_
      rintro e w' ⟨rfl, n, rfl⟩
      go_wp2_with fail
      go_ret2
      exact ⟨mret_ii (by rw [E.out.1, HZ.out]) E.out.2.symm, n, rfl⟩
    · have q0 : ((r : Int) == 0) = false := by simp; omega
      generalize regA f F Wb w b r = A at *
      have hd : ∀ n, (W.drewN n).cell? A = some (.int .u32 x) := fun n => hc
      have HD := mhid hd
      clear h0 hc hd
      go_enter Tryz.func14, Tryz.ntmps14
      go_wp2_with fail
      refine HP.out.mono ?_
      rintro e w' ⟨rfl, n, rfl⟩
      have hc := HD.out n
      go_wp2_with fail
      go_ret2
      exact ⟨mret_ii (by rw [E.out.1, HE.out (by simp at q0; omega)]) E.out.2.symm, n, rfl⟩
  · have E := mhid (show getV f w b r = 0 ∧ regE f w b r = 2 from ⟨if_neg hx, if_neg hx⟩)
    have HP := mhid (fat_err W F Wb cap f h w b r hx (.func (.func 59) #[.pointer (some ⟨F, 0, none⟩)] #[]))
    clear h hx
    go_enter Tryz.func14, Tryz.ntmps14
    go_wp2_with fail
    refine HP.out.mono ?_
    rintro e w' ⟨rfl, rfl⟩
    go_wp2_with fail
    go_ret2
    exact ⟨mret_ii E.out.1.symm E.out.2.symm, 0, rfl⟩
end Go.Proofs.YtajholbcpmjhiaaGreatDoor
/- The walks of file.Set, New, Window, Copy. -/
namespace Go.Proofs.YtajholbcpmjhiaaGreatDoor
open Go.RowKit
def FSets (F Wb cap : Nat) (f : Fx) (w b r x : Int) (W : World) (e : Ending) (w' : World) : Prop :=
  e = .returned (.int .i64 (regE f w b r)) ∧ FileAt w' F Wb cap (setV f w b r x) ∧ Only (fun k => k = F ∨ k = Wb) W w' ∧ w'.heap.size = W.heap.size
set_option maxHeartbeats 1000000 in
theorem fset_any (W : World) (F Wb cap : Nat) (f : Fx) (h : FileAt W F Wb cap f) (w b r x : Int) (hx : 0 ≤ x ∧ x < 4294967296) :
    Calls Tryz.prog 20 #[.pointer (some ⟨F, 0, none⟩), .int .i64 w, .int .i64 b, .int .i64 r, .int .u32 x] W (FSets F Wb cap f w b r x W) := by
  by_cases hr : regOk f w b r
  · have E := mhid (show setV f w b r x = setF f w.toNat b.toNat r.toNat x ∧ regE f w b r = 0 from ⟨if_pos hr, if_pos hr⟩)
    obtain ⟨⟨a1, a2⟩, ⟨a3, a4⟩, a5, a6⟩ := hr
    obtain ⟨w, rfl⟩ := Int.eq_ofNat_of_zero_le a1
    obtain ⟨b, rfl⟩ := Int.eq_ofNat_of_zero_le a3
    obtain ⟨r, rfl⟩ := Int.eq_ofNat_of_zero_le a5
    rw [Int.toNat_natCast, Int.toNat_natCast, Int.toNat_natCast] at E
    have HP := mhid (fat_ok W F Wb cap f h w b r (by omega) (by omega) (by omega))
    obtain ⟨y, hc, hz, -⟩ := h.reg (w := w) (b := b) (r := r) (by omega) (by omega) (by omega)
    have HF := mhid h
    by_cases h0 : r = 0
    · have HZ := mhid (show setF f w b r x = f from if_pos h0)
      have q0 : ¬ (0 < (r : Int)) := by omega
      have q1 : ¬ (0 < r) := by omega
      clear h h0 hc hz
      go_enter Tryz.func20, Tryz.ntmps20
      go_wp2_with fail
      refine HP.out.mono ?_
      rintro e w' ⟨rfl, n, rfl⟩
      go_wp2_with fail
      go_ret
      have ho : Only (fun k => k = F ∨ k = Wb) W (W.drewN n) := (Only.refl _ _).drewN n
      exact ⟨mret_i E.out.2.symm, by rw [E.out.1, HZ.out]; exact HF.out.keepb ((Only.refl (fun _ => False) W).drewN n |>.below (Nat.le_refl _) (fun _ _ => id)), ho, rfl⟩
    · have q0 : 0 < (r : Int) := by omega
      have q1 : 0 < r := by omega
      have hd : ∀ n, FileAt ((W.drewN n).setCell (regA f F Wb w b r) (.int .u32 x)) F Wb cap (setF f w b r x) := fun n =>
        (h.keepb ((Only.refl (fun _ => False) W).drewN n |>.below (Nat.le_refl _) (fun _ _ => id))).put (by omega) (by omega) (by omega) q1 hx
      have hb := regA_block f F Wb w b r
      have HD := mhid (And.intro hd hb)
      clear h hd hb h0
      generalize regA f F Wb w b r = A at *
      have hcd : ∀ n, (W.drewN n).cell? A = some (.int .u32 y) ∧ (W.drewN n).frozen? A = false := fun n => ⟨hc, hz⟩
      have HC := mhid hcd
      clear hc hz hcd
      go_enter Tryz.func20, Tryz.ntmps20
      go_wp2_with fail
      refine HP.out.mono ?_
      rintro e w' ⟨rfl, n, rfl⟩
      obtain ⟨hc, hz⟩ := HC.out n
      go_wp2_with fail
      go_ret
      exact ⟨mret_i E.out.2.symm, by rw [E.out.1]; exact HD.out.1 n, ((Only.refl _ _).drewN n).setCell (HD.out.2) _, by simp [World.setCell]⟩
  · have E := mhid (show setV f w b r x = f ∧ regE f w b r = 2 from ⟨if_neg hr, if_neg hr⟩)
    have HP := mhid (fat_err W F Wb cap f h w b r hr (.func (.func 59) #[.pointer (some ⟨F, 0, none⟩)] #[]))
    have HF := mhid h
    clear h hr
    go_enter Tryz.func20, Tryz.ntmps20
    go_wp2_with fail
    refine HP.out.mono ?_
    rintro e w' ⟨rfl, rfl⟩
    go_wp2_with fail
    go_ret
    exact ⟨mret_i E.out.2.symm, by rw [E.out.1]; exact HF.out, Only.refl _ _, rfl⟩
def FMakes (f : Fx) (w : World) (e : Ending) (w' : World) : Prop :=
  ∃ F Wb cap, e = .returned (.tuple #[.pointer (some ⟨F, 0, none⟩), .int .i64 0]) ∧ w.heap.size ≤ F ∧ w.heap.size ≤ Wb ∧ FileAt w' F Wb cap f ∧ Below w.heap.size w w'
set_option maxRecDepth 100000 in
theorem fzero : Tryz.zeroCells111 = (Value.int .i64 0 :: Value.slice none 0 0 :: u32s (List.replicate 136 0)).toArray := by kernel_rfl
set_option maxRecDepth 100000 in
set_option maxHeartbeats 1000000 in
theorem fnew_ok (n : Nat) (w : World) (h2 : 2 ≤ n) (h32 : n ≤ 32) : Calls Tryz.prog 121 #[.int .i64 n] w (FMakes (Fx.new n) w) := by
  obtain ⟨i0, hi, hz0, hz1, hz2⟩ := info_parts info32
  have hq2 : i0.bytes * (16 * n) ≤ 281474976710656 := by rw [hz2]; omega
  have hq3 : 16 * n ≤ maxLen := by unfold maxLen; omega
  have h5 : ¬ ((n : Int) < 2) := by omega
  have h6 : ¬ (32 < (n : Int)) := by omega
  go_enter Tryz.func121, Tryz.ntmps121
  go_wp2_with (at_make; refine wpList_make_full _ rfl _ _ 22 rfl w.heap.size 24 i0 (.int .u32 0) 1 Tryz.underlying22 hi hz0 hz1 .i64 .i64 (16 * n) (16 * n) (16 * n) rfl rfl rfl rfl hq2 hq3 (Nat.le_refl _) ?_; intro w1 hown hgrow)
  have hsz := hgrow.size
  have hr : (madeCells (Value.int .u32 0).cells (16 * n * 1)).toList = u32s (List.replicate (16 * n) 0) := by
    rw [Nat.mul_one]; unfold u32s; rw [List.map_replicate]; exact toList_madeCells_one _ (16 * n)
  rw [hr] at hown
  obtain ⟨g, c, hv, hg, hrow⟩ := VRow.of_own hown (fun e => by cases e)
  cases hv
  have hb : Below w.heap.size w w1 := (Below.refl _ w).grown hgrow (Nat.le_refl _) (fun k e => by cases e)
  go_ret2
  rw [fzero]
  have hcs : ((Value.int .i64 0 :: Value.slice none 0 0 :: u32s (List.replicate 136 0)).toArray.setIfInBounds 0 (Value.int .i64 n)).setIfInBounds 1 (Value.slice (some ⟨w.heap.size, 0, none⟩) (16 * n) (16 * n)) = (Value.int .i64 n :: Value.slice (some ⟨w.heap.size, 0, none⟩) (16 * n) (16 * n) :: u32s (List.replicate 136 0)).toArray := by
    apply Array.ext'
    simp
  rw [hcs]
  refine ⟨w1.heap.size, w.heap.size, 16 * n, rfl, hsz, Nat.le_refl _, ⟨Fx.ok.new h2 h32, ?_, ?_, ?_, Nat.le_refl _, hq3⟩, hb.alloc hsz _⟩
  · have := ARow.fresh w1 111 (Value.int .i64 n :: Value.slice (some ⟨w.heap.size, 0, none⟩) (16 * n) (16 * n) :: u32s (List.replicate 136 0)).toArray
    simpa [Fx.new] using this
  · exact hrow.alloc _
  · have := hrow.lt; omega
end Go.Proofs.YtajholbcpmjhiaaGreatDoor
/- The walks of file.Window and Copy. -/
namespace Go.Proofs.YtajholbcpmjhiaaGreatDoor
open Go.RowKit
def winR (f : Fx) (w : Nat) : List Int := (f.win.drop (16 * w)).take 16
theorem winR_len {f : Fx} (h : f.ok) {w : Nat} (hw : w < f.nw) : (winR f w).length = 16 := by
  have := h.wl
  unfold winR; rw [List.length_take, List.length_drop]; omega
def winV (f : Fx) (w : Int) : List Int := if regOk f w 0 0 then winR f w.toNat else []
def FTells (f : Fx) (w : Int) (W : World) (e : Ending) (w' : World) : Prop :=
  ∃ v, e = .returned (.tuple #[v, .int .i64 (regE f w 0 0)]) ∧ w'.ownsRow W.heap.size 24 1 v (winV f w).length (u32s (winV f w)) ∧ Below W.heap.size W w'
set_option maxHeartbeats 1000000 in
theorem own_whole {w : World} {base n g : Nat} {t : TypeId} {xs : List Value} (h : w.ownsRow base t 1 (.slice (some ⟨g, 0, none⟩) n n) n xs) : ARow w g t xs ∧ base ≤ g := by
  rcases h.2 with ⟨h1, _⟩ | ⟨g', cap, cur, h1, h2, h3, h4, h5, h6, h7⟩
  · cases h1
  · cases h1
    refine ⟨?_, h2⟩
    have : cur = xs.toArray := by
      apply Array.ext'
      rw [← h7, List.take_of_length_le (by simp; omega)]
    unfold ARow; rw [h3, this]
theorem whole_own {w : World} {base n g : Nat} {t : TypeId} {xs : List Value} (h : ARow w g t xs) (hb : base ≤ g) (hl : xs.length = n) (hm : n ≤ maxLen) : w.ownsRow base t 1 (.slice (some ⟨g, 0, none⟩) n n) n xs :=
  ⟨by omega, .inr ⟨g, n, xs.toArray, rfl, hb, h, Nat.le_refl _, hm, by simp; omega, by rw [List.take_of_length_le (by simp; omega)]⟩⟩
theorem winR_news {W : World} {Wb : Nat} {f : Fx} (h : VRow W Wb 24 (u32s f.win)) (hl : f.win.length = 16 * f.nw) {w : Nat} (hw : w < f.nw) : ∀ j v, (u32s (winR f w))[j]? = some v → W.cell? ((⟨Wb, 16 * w, none⟩ : Addr).add j) = some v := by
  intro j v hj
  have hjl : j < (winR f w).length := by have := (List.getElem?_eq_some_iff.1 hj).1; simpa [u32s] using this
  have e : (⟨Wb, 16 * w, none⟩ : Addr).add j = ⟨Wb, 16 * w + j, none⟩ := by unfold Addr.add; split <;> simp_all
  rw [e]
  refine h.cell ?_
  have hj16 : j < 16 := by unfold winR at hjl; rw [List.length_take] at hjl; omega
  rw [← hj]
  unfold u32s winR
  rw [List.getElem?_map, List.getElem?_map, List.getElem?_take_of_lt hj16, List.getElem?_drop]
theorem ftell_ret {v : Value} {a b : Int} (h : a = b) : Ending.returned (.tuple #[v, .int .i64 a]) = .returned (.tuple #[v, .int .i64 b]) := by rw [h]
set_option maxRecDepth 100000 in
set_option maxHeartbeats 2000000 in
theorem fwin_any (W : World) (F Wb cap : Nat) (f : Fx) (h : FileAt W F Wb cap f) (w : Int) :
    Calls Tryz.prog 13 #[.pointer (some ⟨F, 0, none⟩), .int .i64 w] W (FTells f w W) := by
  by_cases hr : regOk f w 0 0
  · have E := mhid (show winV f w = winR f w.toNat ∧ regE f w 0 0 = 0 from ⟨if_pos hr, if_pos hr⟩)
    obtain ⟨⟨a1, a2⟩, -⟩ := hr
    obtain ⟨w, rfl⟩ := Int.eq_ofNat_of_zero_le a1
    rw [Int.toNat_natCast] at E
    have hw : w < f.nw := by omega
    have HP := mhid (fat_ok W F Wb cap f h w 0 0 hw (by omega) (by omega))
    have hlen := winR_len h.ok hw
    have hwl := h.ok.wl
    have h32 := h.ok.nw32
    have hc1 := h.c1
    have hc2 := h.c2
    have HF := mhid h
    clear h
    obtain ⟨i0, hi, hz0, hz1, hz2⟩ := info_parts info32
    have hq2 : i0.bytes * 16 ≤ 281474976710656 := by rw [hz2]; omega
    have hq3 : 16 ≤ maxLen := by unfold maxLen; omega
    have HCN := mhid (show (u32s (winR f w)).length = Nat.min (16 * f.nw - 16 * w) 16 from by rw [u32s, List.length_map, hlen]; exact (Nat.min_eq_right (by omega)).symm)
    have HCF := mhid (show 0 + (u32s (winR f w)).length ≤ ((madeCells (Value.int .u32 0).cells (16 * 1)).toList).length from by rw [u32s, List.length_map, hlen]; simp [madeCells])
    unfold maxLen at hc2
    go_enter Tryz.func13, Tryz.ntmps13
    go_wp2_with fail
    refine HP.out.mono ?_
    rintro e w' ⟨rfl, n, rfl⟩
    have hbn : Below W.heap.size W (W.drewN n) := ((Only.refl (fun _ => False) W).drewN n).below (Nat.le_refl _) (fun _ _ => id)
    have HF2 := mhid (HF.out.keepb hbn)
    have hsz : W.heap.size ≤ (W.drewN n).heap.size := hbn.size
    have HBN := mhid hbn
    generalize W.drewN n = W1 at *
    go_wp2_with (first | (at_make; refine wpList_make_full _ rfl _ _ 22 rfl W1.heap.size 24 i0 (.int .u32 0) 1 Tryz.underlying22 hi hz0 hz1 .i64 .i64 16 16 16 rfl rfl rfl rfl hq2 hq3 (Nat.le_refl _) ?_; intro w1 hown hgrow; have hb1 : Below W1.heap.size W1 w1 := (Below.refl _ W1).grown hgrow (Nat.le_refl _) (fun k e => by cases e); have c1 : w1.cell? ⟨F, 1, none⟩ = some (.slice (some ⟨Wb, 0, none⟩) (16 * f.nw) cap) := (HF2.out.keepb hb1).cells.cell (k := 1) rfl; have HO := mhid (own_whole hown); have HNW := mhid (winR_news (HF2.out.keepb hb1).win hwl hw))
                         | (have _t := HO; refine wpList_copy_splice (o := ⟨some 29, _, _, _, _, _⟩) rfl (.tmp 21) (.tmp 28) 22 22 rfl 24 Tryz.underlying22 (by kernel_rfl) _ _ 16 16 _ _ rfl rfl W1.heap.size 0 _ _ HO.out.1 (u32s (winR f w)) HCN.out (fun _ => ⟨rfl, _, rfl, HNW.out⟩) HCF.out u32s_one W.heap.size W (HBN.out.trans (hb1.mono hsz)) hsz ?_; intro w2 hw2 hb2))
    have hsp : splice (madeCells (Value.int .u32 0).cells (16 * 1)).toList 0 (u32s (winR f w)) = u32s (winR f w) := by
      unfold splice
      have e1 : (madeCells (Value.int .u32 0).cells (16 * 1)).toList.length = 16 := by simp [madeCells]
      have e2 : (u32s (winR f w)).length = 16 := by rw [u32s, List.length_map, hlen]
      rw [List.drop_eq_nil_of_le (by omega)]; simp
    have hrow : ARow w2 W1.heap.size 24 (u32s (winR f w)) := by rw [← hsp]; exact hw2.out
    go_ret2
    refine ⟨_, ftell_ret E.out.2.symm, ?_, hb2⟩
    rw [E.out.1, hlen]
    exact whole_own hrow hsz (by rw [u32s, List.length_map, hlen]) hq3
  · have E := mhid (show winV f w = [] ∧ regE f w 0 0 = 2 from ⟨if_neg hr, if_neg hr⟩)
    have HP := mhid (fat_err W F Wb cap f h w 0 0 hr (.func (.func 59) #[.pointer (some ⟨F, 0, none⟩)] #[]))
    clear h hr
    go_enter Tryz.func13, Tryz.ntmps13
    go_wp2_with fail
    refine HP.out.mono ?_
    rintro e w' ⟨rfl, rfl⟩
    go_wp2_with fail
    go_ret2
    refine ⟨_, ftell_ret E.out.2.symm, ?_, Below.refl _ _⟩
    rw [E.out.1]
    exact World.ownsRow_nil _ _ _ _
end Go.Proofs.YtajholbcpmjhiaaGreatDoor
/- Plain law: a handler's instructions, each in its own words. No program in sight. -/
namespace Go.Proofs.YtajholbcpmjhiaaGreatDoor
open Go.RowKit
def gr (g : List Int) (r : Nat) : Int := if r = 0 then 0 else g.getD r 0
theorem rg_low {E : He} {s : Hn} {r : Nat} (h : r < 8) : rg E s r = gr s.g r := by
  unfold rg gr
  by_cases h0 : r = 0
  · rw [if_pos h0, if_pos h0]
  · rw [if_neg h0, if_neg h0, if_pos h]
theorem sr_low {E : He} {s : Hn} {r : Nat} (h0 : 1 ≤ r) (h : r < 8) (x : Int) : sr E s r x = { s with g := s.g.set r x } := by
  unfold sr; rw [if_neg (by omega), if_pos h]
section
variable {E : He} {k : Nat} {s' : Hn} {win g mem tpc ch : List Int} {i cwp : Nat} {wim fl : Int}
theorem Hp.alui (op rd rs : Nat) (n : Int) {v : Int} (hx : E.L[i]? = some (aluI op rd rs n)) (ho : op < 14) (hd0 : 1 ≤ rd) (hd : rd < 8) (hs : rs < 8) (hb : doB op (u32 n) = true) (hv : doW op (gr g rs) (u32 n) = v) (h : Hp E k ⟨win, g.set rd v, mem, i + 1, wim, cwp, fl, tpc, ch⟩ s') :
    Hp E (k + 1) ⟨win, g, mem, i, wim, cwp, fl, tpc, ch⟩ s' := by
  have e : ((1 : Int) + (op : Int) - 1).toNat = op := by omega
  refine Hp.step hx ?_ ?_ h
  · unfold okx aluI; simp only; rw [if_pos (by omega), if_pos trivial, e]; exact ⟨by omega, hb⟩
  · unfold ex aluI; simp only; rw [if_pos (by omega), if_pos trivial, e, Int.toNat_natCast, Int.toNat_natCast, sr_low hd0 hd, rg_low hs, hv]; rfl
theorem Hp.both (op rd a b : Nat) {v : Int} (hx : E.L[i]? = some (bothI op rd a b)) (ho : op < 14) (hd0 : 1 ≤ rd) (hd : rd < 8) (ha : a < 8) (hb' : b < 8) (hb : doB op (gr g b) = true) (hv : doW op (gr g a) (gr g b) = v) (h : Hp E k ⟨win, g.set rd v, mem, i + 1, wim, cwp, fl, tpc, ch⟩ s') :
    Hp E (k + 1) ⟨win, g, mem, i, wim, cwp, fl, tpc, ch⟩ s' := by
  have e : ((1 : Int) + (op : Int) - 1).toNat = op := by omega
  refine Hp.step hx ?_ ?_ h
  · unfold okx bothI; simp only; rw [if_pos (by omega), if_neg (by decide), e, Int.toNat_natCast, rg_low hb']; exact ⟨by omega, hb⟩
  · unfold ex bothI; simp only; rw [if_pos (by omega), if_neg (by decide), e, Int.toNat_natCast, Int.toNat_natCast, Int.toNat_natCast, sr_low hd0 hd, rg_low ha, rg_low hb', hv]; rfl
theorem Hp.cmpi (rs : Nat) (n : Int) {v : Int} (hx : E.L[i]? = some ⟨16, 0, rs, 0, true, n⟩) (hs : rs < 8) (hv : flagsS (gr g rs) (u32 n) = v) (h : Hp E k ⟨win, g, mem, i + 1, wim, cwp, v, tpc, ch⟩ s') :
    Hp E (k + 1) ⟨win, g, mem, i, wim, cwp, fl, tpc, ch⟩ s' := by
  refine Hp.step hx ?_ ?_ h
  · unfold okx; simp only; rw [if_neg (by decide), if_neg (by decide), if_pos (by decide)]; trivial
  · unfold ex; simp only; rw [if_neg (by decide), if_neg (by decide), if_pos (by decide), if_pos trivial, Int.toNat_natCast, rg_low hs, hv]; rfl
theorem Hp.cmpr (a b : Nat) {v : Int} (hx : E.L[i]? = some ⟨16, 0, a, b, false, 0⟩) (ha : a < 8) (hb : b < 8) (hv : flagsS (gr g a) (gr g b) = v) (h : Hp E k ⟨win, g, mem, i + 1, wim, cwp, v, tpc, ch⟩ s') :
    Hp E (k + 1) ⟨win, g, mem, i, wim, cwp, fl, tpc, ch⟩ s' := by
  refine Hp.step hx ?_ ?_ h
  · unfold okx; simp only; rw [if_neg (by decide), if_neg (by decide), if_pos (by decide)]; trivial
  · unfold ex; simp only; rw [if_neg (by decide), if_neg (by decide), if_pos (by decide), if_neg (by decide), Int.toNat_natCast, Int.toNat_natCast, rg_low ha, rg_low hb, hv]; rfl
theorem Hp.jump (c : Nat) (n : Int) {j : Nat} (hx : E.L[i]? = some ⟨17, c, 0, 0, true, n⟩) (hh : holdsS c fl = true) (hj : (i : Int) + n = j) (hl : j ≤ E.L.length) (h : Hp E k ⟨win, g, mem, j, wim, cwp, fl, tpc, ch⟩ s') :
    Hp E (k + 1) ⟨win, g, mem, i, wim, cwp, fl, tpc, ch⟩ s' := by
  refine Hp.step hx ?_ ?_ h
  · unfold okx; simp only; rw [if_neg (by decide), if_neg (by decide), if_neg (by decide), if_pos (by decide), hj]; exact ⟨trivial, by omega, by omega⟩
  · unfold ex; simp only; rw [if_neg (by decide), if_neg (by decide), if_neg (by decide), if_pos (by decide), Int.toNat_natCast, if_pos hh, hj, Int.toNat_natCast]
theorem Hp.stay (c : Nat) (n : Int) (hx : E.L[i]? = some ⟨17, c, 0, 0, true, n⟩) (hh : holdsS c fl = false) (hj : 0 ≤ (i : Int) + n) (hl : (i : Int) + n ≤ E.L.length) (h : Hp E k ⟨win, g, mem, i + 1, wim, cwp, fl, tpc, ch⟩ s') :
    Hp E (k + 1) ⟨win, g, mem, i, wim, cwp, fl, tpc, ch⟩ s' := by
  refine Hp.step hx ?_ ?_ h
  · unfold okx; simp only; rw [if_neg (by decide), if_neg (by decide), if_neg (by decide), if_pos (by decide)]; exact ⟨trivial, hj, hl⟩
  · unfold ex; simp only; rw [if_neg (by decide), if_neg (by decide), if_neg (by decide), if_pos (by decide), Int.toNat_natCast, hh, if_neg (by decide)]; rfl
theorem Hp.ld (rd rs : Nat) (n : Int) {A : Nat} {v : Int} (hx : E.L[i]? = some (ldI rd rs n)) (hd0 : 1 ≤ rd) (hd : rd < 8) (hs : rs < 8) (hA : u32 (gr g rs + u32 n) = A) (ha : addrOk mem A) (hv : loadS mem A 4 = v) (h : Hp E k ⟨win, g.set rd v, mem, i + 1, wim, cwp, fl, tpc, ch⟩ s') :
    Hp E (k + 1) ⟨win, g, mem, i, wim, cwp, fl, tpc, ch⟩ s' := by
  refine Hp.step hx ?_ ?_ h
  · unfold okx ldI; simp only; rw [if_neg (by decide), if_neg (by decide), if_neg (by decide), if_neg (by decide), if_pos (by decide), if_pos trivial, Int.toNat_natCast, rg_low hs, hA]; exact ha
  · unfold ex ldI; simp only; rw [if_neg (by decide), if_neg (by decide), if_neg (by decide), if_neg (by decide), if_pos (by decide), if_pos trivial, Int.toNat_natCast, Int.toNat_natCast, rg_low hs, hA, Int.toNat_natCast, sr_low hd0 hd, hv]; rfl
theorem Hp.ldsp (rs : Nat) (n : Int) {A : Nat} {v : Int} (hx : E.L[i]? = some (ldI 14 rs n)) (hs : rs < 8) (hA : u32 (gr g rs + u32 n) = A) (ha : addrOk mem A) (hv : loadS mem A 4 = v) (h : Hp E k ⟨win.set (16 * ((cwp + E.nw - 1) % E.nw) + 14) v, g, mem, i + 1, wim, cwp, fl, tpc, ch⟩ s') :
    Hp E (k + 1) ⟨win, g, mem, i, wim, cwp, fl, tpc, ch⟩ s' := by
  refine Hp.step hx ?_ ?_ h
  · unfold okx ldI; simp only; rw [if_neg (by decide), if_neg (by decide), if_neg (by decide), if_neg (by decide), if_pos (by decide), if_pos trivial, Int.toNat_natCast, rg_low hs, hA]; exact ha
  · unfold ex ldI; simp only; rw [if_neg (by decide), if_neg (by decide), if_neg (by decide), if_neg (by decide), if_pos (by decide), if_pos trivial, Int.toNat_natCast, rg_low hs, hA, Int.toNat_natCast, hv]; rfl
theorem Hp.st (rd rs : Nat) (n : Int) {A : Nat} {v : Int} (hx : E.L[i]? = some (stI rd rs n)) (hs : rs < 8) (hA : u32 (gr g rs + u32 n) = A) (ha : addrOk mem A) (hfar : A + 4 ≤ E.lo ∨ E.lo + 4 * E.L.length ≤ A) (hv : rg E ⟨win, g, mem, i, wim, cwp, fl, tpc, ch⟩ rd = v) (h : Hp E k ⟨win, g, storeS mem A 4 v, i + 1, wim, cwp, fl, tpc, ch⟩ s') :
    Hp E (k + 1) ⟨win, g, mem, i, wim, cwp, fl, tpc, ch⟩ s' := by
  refine Hp.step hx ?_ ?_ h
  · unfold okx stI; simp only; rw [if_neg (by decide), if_neg (by decide), if_neg (by decide), if_neg (by decide), if_neg (by decide), if_pos (by decide), if_pos trivial, Int.toNat_natCast, rg_low hs, hA]; exact ⟨ha, by omega⟩
  · unfold ex stI; simp only; rw [if_neg (by decide), if_neg (by decide), if_neg (by decide), if_neg (by decide), if_neg (by decide), if_pos (by decide), if_pos trivial, Int.toNat_natCast, Int.toNat_natCast, rg_low hs, hA, Int.toNat_natCast, hv]; rfl
theorem Hp.rdpsr (rd : Nat) {v : Int} (hx : E.L[i]? = some ⟨26, rd, 0, 0, false, 0⟩) (hd0 : 1 ≤ rd) (hd : rd < 8) (hv : packW ⟨cwp, E.pil, 16, fl⟩ = v) (h : Hp E k ⟨win, g.set rd v, mem, i + 1, wim, cwp, fl, tpc, ch⟩ s') :
    Hp E (k + 1) ⟨win, g, mem, i, wim, cwp, fl, tpc, ch⟩ s' := by
  refine Hp.step hx ?_ ?_ h
  · unfold okx; simp only; rw [if_neg (by decide), if_neg (by decide), if_neg (by decide), if_neg (by decide), if_neg (by decide), if_neg (by decide), if_pos (by decide)]; trivial
  · unfold ex; simp only; rw [if_neg (by decide), if_neg (by decide), if_neg (by decide), if_neg (by decide), if_neg (by decide), if_neg (by decide), if_pos (by decide), Int.toNat_natCast, sr_low hd0 hd, hv]; rfl
theorem Hp.wrpsr (rs : Nat) {c : Nat} {f : Int} (hx : E.L[i]? = some ⟨27, 0, rs, 0, false, 0⟩) (hs : rs < 8) (hv : gr g rs = packW ⟨c, E.pil, 16, f⟩) (hc : c < E.nw) (hnw : E.nw ≤ 32) (hp : 0 ≤ E.pil ∧ E.pil < 16) (hf : 0 ≤ f ∧ f < 16) (h : Hp E k ⟨win, g, mem, i + 1, wim, c, f, tpc, ch⟩ s') :
    Hp E (k + 1) ⟨win, g, mem, i, wim, cwp, fl, tpc, ch⟩ s' := by
  have e : u32 (gr g rs + (0 : Int)) = packW ⟨c, E.pil, 16, f⟩ := by rw [hv]; unfold packW u32; simp only; omega
  have e2 : rg E ⟨win, g, mem, i, wim, cwp, fl, tpc, ch⟩ 0 = 0 := rfl
  refine Hp.step hx ?_ ?_ h
  · unfold okx; simp only; rw [if_neg (by decide), if_neg (by decide), if_neg (by decide), if_neg (by decide), if_neg (by decide), if_neg (by decide), if_neg (by decide), if_pos (by decide), if_neg (by decide), Int.toNat_natCast, rg_low hs, show (0 : Int).toNat = 0 from rfl, e2, e]
    unfold packW; simp only; omega
  · unfold ex; simp only; rw [if_neg (by decide), if_neg (by decide), if_neg (by decide), if_neg (by decide), if_neg (by decide), if_neg (by decide), if_neg (by decide), if_pos (by decide), if_neg (by decide), Int.toNat_natCast, rg_low hs, show (0 : Int).toNat = 0 from rfl, e2, e]
    have h1 : (packW ⟨(c : Int), E.pil, 16, f⟩ % 32).toNat = c := by unfold packW; simp only; omega
    have h2 : packW ⟨(c : Int), E.pil, 16, f⟩ / 16384 % 16 = f := by unfold packW; simp only; omega
    rw [h1, h2]; rfl
theorem Hp.rdwim (rd : Nat) (hx : E.L[i]? = some ⟨28, rd, 0, 0, false, 0⟩) (hd0 : 1 ≤ rd) (hd : rd < 8) (h : Hp E k ⟨win, g.set rd wim, mem, i + 1, wim, cwp, fl, tpc, ch⟩ s') :
    Hp E (k + 1) ⟨win, g, mem, i, wim, cwp, fl, tpc, ch⟩ s' := by
  refine Hp.step hx ?_ ?_ h
  · unfold okx; simp only; rw [if_neg (by decide), if_neg (by decide), if_neg (by decide), if_neg (by decide), if_neg (by decide), if_neg (by decide), if_neg (by decide), if_neg (by decide), if_pos (by decide)]; trivial
  · unfold ex; simp only; rw [if_neg (by decide), if_neg (by decide), if_neg (by decide), if_neg (by decide), if_neg (by decide), if_neg (by decide), if_neg (by decide), if_neg (by decide), if_pos (by decide), Int.toNat_natCast, sr_low hd0 hd]; rfl
theorem Hp.wrwim (rs : Nat) {v : Int} (hx : E.L[i]? = some ⟨29, 0, rs, 0, false, 0⟩) (hs : rs < 8) (hv : gr g rs = v) (hv0 : 0 ≤ v) (hv1 : v < 4294967296) (hi : invE v E.nw = 0) (h : Hp E k ⟨win, g, mem, i + 1, v, cwp, fl, tpc, ch⟩ s') :
    Hp E (k + 1) ⟨win, g, mem, i, wim, cwp, fl, tpc, ch⟩ s' := by
  have e : u32 (gr g rs + (0 : Int)) = v := by rw [hv]; unfold u32; omega
  have e2 : rg E ⟨win, g, mem, i, wim, cwp, fl, tpc, ch⟩ 0 = 0 := rfl
  refine Hp.step hx ?_ ?_ h
  · unfold okx; simp only; rw [if_neg (by decide), if_neg (by decide), if_neg (by decide), if_neg (by decide), if_neg (by decide), if_neg (by decide), if_neg (by decide), if_neg (by decide), if_neg (by decide), if_pos (by decide), if_neg (by decide), Int.toNat_natCast, rg_low hs, show (0 : Int).toNat = 0 from rfl, e2, e]; exact hi
  · unfold ex; simp only; rw [if_neg (by decide), if_neg (by decide), if_neg (by decide), if_neg (by decide), if_neg (by decide), if_neg (by decide), if_neg (by decide), if_neg (by decide), if_neg (by decide), if_pos (by decide), if_neg (by decide), Int.toNat_natCast, rg_low hs, show (0 : Int).toNat = 0 from rfl, e2, e]; rfl
theorem Hp.rdt (rd : Nat) {v : Int} (hx : E.L[i]? = some ⟨30, rd, 0, 0, true, 0⟩) (hd0 : 1 ≤ rd) (hd : rd < 8) (hv : tpc.getD 16 0 = v) (h : Hp E k ⟨win, g.set rd v, mem, i + 1, wim, cwp, fl, tpc, ch⟩ s') :
    Hp E (k + 1) ⟨win, g, mem, i, wim, cwp, fl, tpc, ch⟩ s' := by
  refine Hp.step hx ?_ ?_ h
  · unfold okx; simp only; rw [if_neg (by decide), if_neg (by decide), if_neg (by decide), if_neg (by decide), if_neg (by decide), if_neg (by decide), if_neg (by decide), if_neg (by decide), if_neg (by decide), if_neg (by decide), if_pos (by decide)]; trivial
  · unfold ex; simp only; rw [if_neg (by decide), if_neg (by decide), if_neg (by decide), if_neg (by decide), if_neg (by decide), if_neg (by decide), if_neg (by decide), if_neg (by decide), if_neg (by decide), if_neg (by decide), if_pos (by decide), Int.toNat_natCast, sr_low hd0 hd, hv]; rfl
theorem Hp.wrt (rs : Nat) {v : Int} (hx : E.L[i]? = some ⟨31, 0, rs, 0, true, 0⟩) (hs : rs < 8) (hv : gr g rs = v) (h : Hp E k ⟨win, g, mem, i + 1, wim, cwp, fl, tpc.set 16 v, ch⟩ s') :
    Hp E (k + 1) ⟨win, g, mem, i, wim, cwp, fl, tpc, ch⟩ s' := by
  refine Hp.step hx ?_ ?_ h
  · unfold okx; simp only; rw [if_neg (by decide), if_neg (by decide), if_neg (by decide), if_neg (by decide), if_neg (by decide), if_neg (by decide), if_neg (by decide), if_neg (by decide), if_neg (by decide), if_neg (by decide), if_neg (by decide), if_pos (by decide)]; trivial
  · unfold ex; simp only; rw [if_neg (by decide), if_neg (by decide), if_neg (by decide), if_neg (by decide), if_neg (by decide), if_neg (by decide), if_neg (by decide), if_neg (by decide), if_neg (by decide), if_neg (by decide), if_neg (by decide), if_pos (by decide), Int.toNat_natCast, rg_low hs, hv]; rfl
theorem Hp.choice (rd : Nat) (hx : E.L[i]? = some ⟨34, rd, 0, 0, false, 0⟩) (hd0 : 1 ≤ rd) (hd : rd < 8) (h : Hp E k ⟨win, g.set rd (ch.headD 0), mem, i + 1, wim, cwp, fl, tpc, ch.tail⟩ s') :
    Hp E (k + 1) ⟨win, g, mem, i, wim, cwp, fl, tpc, ch⟩ s' := by
  refine Hp.step hx ?_ ?_ h
  · unfold okx; simp only; rw [if_neg (by decide), if_neg (by decide), if_neg (by decide), if_neg (by decide), if_neg (by decide), if_neg (by decide), if_neg (by decide), if_neg (by decide), if_neg (by decide), if_neg (by decide), if_neg (by decide), if_neg (by decide)]; trivial
  · unfold ex; simp only; rw [if_neg (by decide), if_neg (by decide), if_neg (by decide), if_neg (by decide), if_neg (by decide), if_neg (by decide), if_neg (by decide), if_neg (by decide), if_neg (by decide), if_neg (by decide), if_neg (by decide), if_neg (by decide), Int.toNat_natCast, sr_low hd0 hd]; rfl
theorem Hp.stf (j : Nat) {A : Nat} {v : Int} (hx : E.L[i]? = some (eachI 23 j)) (hj : j < 16) (hA : win.getD (16 * ((cwp + E.nw - 1) % E.nw) + 14) 0 = A) (ha : 64 ≤ A ∧ A % 4 = 0 ∧ A + 64 ≤ mem.length) (hm : mem.length ≤ 4194304) (hfar : A + 64 ≤ E.lo ∨ E.lo + 4 * E.L.length ≤ A) (hv : win.getD (16 * cwp + j) 0 = v) (h : Hp E k ⟨win, g, storeS mem (A + 4 * j) 4 v, i + 1, wim, cwp, fl, tpc, ch⟩ s') :
    Hp E (k + 1) ⟨win, g, mem, i, wim, cwp, fl, tpc, ch⟩ s' := by
  have e : u32 (rg E ⟨win, g, mem, i, wim, cwp, fl, tpc, ch⟩ (14 : Int).toNat + u32 (4 * (j : Int))) = ((A + 4 * j : Nat) : Int) := by
    show u32 (win.getD (16 * ((cwp + E.nw - 1) % E.nw) + 14) 0 + _) = _
    rw [hA]; unfold u32; omega
  have e3 : ((j : Int) + 16).toNat = 16 + j := by omega
  refine Hp.step hx ?_ ?_ h
  · unfold okx eachI; simp only; rw [if_neg (by decide), if_neg (by decide), if_neg (by decide), if_neg (by decide), if_neg (by decide), if_pos (by decide), if_pos trivial, e]; unfold addrOk; omega
  · unfold ex eachI; simp only; rw [if_neg (by decide), if_neg (by decide), if_neg (by decide), if_neg (by decide), if_neg (by decide), if_pos (by decide), if_pos trivial, e, Int.toNat_natCast, e3]
    have : rg E ⟨win, g, mem, i, wim, cwp, fl, tpc, ch⟩ (16 + j) = v := by
      unfold rg; rw [if_neg (by omega), if_neg (by omega), if_neg (by omega), show 16 + j - 16 = j by omega]; exact hv
    rw [this]; rfl
theorem Hp.ldf (j : Nat) {A : Nat} {v : Int} (hx : E.L[i]? = some (eachI 22 j)) (hj : j < 16) (hA : win.getD (16 * ((cwp + E.nw - 1) % E.nw) + 14) 0 = A) (ha : 64 ≤ A ∧ A % 4 = 0 ∧ A + 64 ≤ mem.length) (hm : mem.length ≤ 4194304) (hv : loadS mem (A + 4 * j) 4 = v) (h : Hp E k ⟨win.set (16 * cwp + j) v, g, mem, i + 1, wim, cwp, fl, tpc, ch⟩ s') :
    Hp E (k + 1) ⟨win, g, mem, i, wim, cwp, fl, tpc, ch⟩ s' := by
  have e : u32 (rg E ⟨win, g, mem, i, wim, cwp, fl, tpc, ch⟩ (14 : Int).toNat + u32 (4 * (j : Int))) = ((A + 4 * j : Nat) : Int) := by
    show u32 (win.getD (16 * ((cwp + E.nw - 1) % E.nw) + 14) 0 + _) = _
    rw [hA]; unfold u32; omega
  have e3 : ((j : Int) + 16).toNat = 16 + j := by omega
  refine Hp.step hx ?_ ?_ h
  · unfold okx eachI; simp only; rw [if_neg (by decide), if_neg (by decide), if_neg (by decide), if_neg (by decide), if_pos (by decide), if_pos trivial, e]; unfold addrOk; omega
  · unfold ex eachI; simp only; rw [if_neg (by decide), if_neg (by decide), if_neg (by decide), if_neg (by decide), if_pos (by decide), if_pos trivial, e, Int.toNat_natCast, e3, hv]
    unfold sr; rw [if_neg (by omega), if_neg (by omega), if_neg (by omega), show 16 + j - 16 = j by omega]; rfl
end
end Go.Proofs.YtajholbcpmjhiaaGreatDoor
