/- Several texts in one: FileAt, FileSet, FileWin. -/
import Derived.Test.YtajholbcpmjhiaaGreatDoorH07
import Derived.IntWalk
import Derived.Laws.CopyOwn
import Derived.Great.Ranges
set_option linter.unusedVariables false
set_option linter.unusedSimpArgs false
/- The register file as it lies in the world; the walks of the package file. -/
namespace Go.Proofs.YtajholbcpmjhiaaGreatDoor
open Go.RowKit
structure FileAt (w : World) (F Wb cap : Nat) (f : Fx) : Prop where
  ok : f.ok
  cells : ARow w F 111 (.int .i64 f.nw :: .slice (some ⟨Wb, 0, none⟩) (16 * f.nw) cap :: u32s f.glo)
  win : VRow w Wb 24 (u32s f.win)
  ne : F ≠ Wb
  c1 : 16 * f.nw ≤ cap
  c2 : cap ≤ maxLen
theorem u32s_get {l : List Int} {k : Nat} (h : k < l.length) : (u32s l)[k]? = some (.int .u32 (l.getD k 0)) := by
  simp [u32s, h, List.getD_eq_getElem?_getD]
theorem u32s_set (l : List Int) (k : Nat) (x : Int) : (u32s l).set k (.int .u32 x) = u32s (l.set k x) := by
  unfold u32s; rw [List.map_set]
theorem FileAt.keep {S : Nat → Prop} {w w' : World} {F Wb cap : Nat} {f : Fx} (h : FileAt w F Wb cap f) (o : Only S w w') (h1 : ¬ S F) (h2 : ¬ S Wb) : FileAt w' F Wb cap f :=
  ⟨h.ok, h.cells.of_block (o.block F h.cells.lt h1), h.win.of_block (o.block Wb h.win.lt h2), h.ne, h.c1, h.c2⟩
theorem FileAt.keepb {w w' : World} {F Wb cap : Nat} {f : Fx} (h : FileAt w F Wb cap f) (hb : Below w.heap.size w w') : FileAt w' F Wb cap f := h.keep (Only.of_below (S := fun _ => False) hb) id id
def regA (f : Fx) (F Wb w b r : Nat) : Addr :=
  if r < 8 then ⟨F, 2 + b * 8 + r, none⟩ else if r < 16 then ⟨Wb, 16 * ((w + f.nw - 1) % f.nw) + r, none⟩ else ⟨Wb, 16 * w + (r - 16), none⟩
theorem FileAt.reg {W : World} {F Wb cap : Nat} {f : Fx} (h : FileAt W F Wb cap f) {w b r : Nat} (hw : w < f.nw) (hb : b < 17) (hr : r < 32) :
    ∃ x, W.cell? (regA f F Wb w b r) = some (.int .u32 x) ∧ W.frozen? (regA f F Wb w b r) = false ∧ (0 < r → x = getF f w b r) := by
  have hg := h.ok.gl
  have hl := h.ok.wl
  have hm : (w + f.nw - 1) % f.nw < f.nw := Nat.mod_lt _ (by omega)
  unfold regA getF
  by_cases h8 : r < 8
  · rw [if_pos h8]
    refine ⟨f.glo.getD (b * 8 + r) 0, h.cells.cell (k := 2 + b * 8 + r) (by rw [show 2 + b * 8 + r = (b * 8 + r) + 1 + 1 by omega]; exact u32s_get (by omega)), h.cells.frozen _, fun h0 => by rw [if_neg (by omega), if_pos h8]⟩
  · rw [if_neg h8]
    by_cases h16 : r < 16
    · rw [if_pos h16]
      exact ⟨_, h.win.cell (u32s_get (by omega)), h.win.frozen _, fun h0 => by rw [if_neg (by omega), if_neg h8, if_pos h16]⟩
    · rw [if_neg h16]
      exact ⟨_, h.win.cell (u32s_get (by omega)), h.win.frozen _, fun h0 => by rw [if_neg (by omega), if_neg h8, if_neg h16]⟩
theorem FileAt.put {W : World} {F Wb cap : Nat} {f : Fx} (h : FileAt W F Wb cap f) {w b r : Nat} (hw : w < f.nw) (hb : b < 17) (hr : r < 32) (h0 : 0 < r) {x : Int} (hx : 0 ≤ x ∧ x < 4294967296) :
    FileAt (W.setCell (regA f F Wb w b r) (.int .u32 x)) F Wb cap (setF f w b r x) := by
  have hok := h.ok.sF w b r hx
  have hg := h.ok.gl
  have hl := h.ok.wl
  have hm : (w + f.nw - 1) % f.nw < f.nw := Nat.mod_lt _ (by omega)
  unfold setF at hok ⊢
  unfold regA
  rw [if_neg (show ¬ r = 0 by omega)] at hok ⊢
  by_cases h8 : r < 8
  · simp only [if_pos h8] at hok ⊢
    refine ⟨hok, ?_, h.win.other (a := ⟨F, _, none⟩) (fun e => h.ne e.symm) _, h.ne, h.c1, h.c2⟩
    have := h.cells.set (2 + b * 8 + r) (.int .u32 x)
    rw [show 2 + b * 8 + r = (b * 8 + r) + 1 + 1 by omega] at this ⊢
    rw [List.set_cons_succ, List.set_cons_succ, u32s_set] at this
    exact this
  · simp only [if_neg h8] at hok ⊢
    by_cases h16 : r < 16
    · simp only [if_pos h16] at hok ⊢
      have := h.win.set (k := 16 * ((w + f.nw - 1) % f.nw) + r) (by simp [u32s]; omega) (.int .u32 x)
      rw [u32s_set] at this
      exact ⟨hok, h.cells.other (a := ⟨Wb, _, none⟩) h.ne _, this, h.ne, h.c1, h.c2⟩
    · simp only [if_neg h16] at hok ⊢
      have := h.win.set (k := 16 * w + (r - 16)) (by simp [u32s]; omega) (.int .u32 x)
      rw [u32s_set] at this
      exact ⟨hok, h.cells.other (a := ⟨Wb, _, none⟩) h.ne _, this, h.ne, h.c1, h.c2⟩
theorem regA_block (f : Fx) (F Wb w b r : Nat) : (regA f F Wb w b r).block = F ∨ (regA f F Wb w b r).block = Wb := by
  unfold regA; split; exact .inl rfl; split <;> exact .inr rfl
/-! The walks. -/
theorem fnone_made (w : World) (F : Nat) (n : Nat) (h0 : 0 < n) (h : w.cell? ⟨F, 0, none⟩ = some (.int .i64 n)) : Calls Tryz.prog 126 #[.pointer (some ⟨F, 0, none⟩)] w fun e w' => e = .returned (.bool false) ∧ w = w' := by
  have h1 : ((n : Int) == 0) = false := by simp; omega
  go_enter Tryz.func126, Tryz.ntmps126
  go_wp2
  go_ret
  exact ⟨rfl, rfl⟩
theorem ret_addr {a b : Addr} (h : a = b) : Ending.returned (.pointer (some a)) = .returned (.pointer (some b)) := by rw [h]
set_option maxHeartbeats 1000000 in
theorem place_any (W : World) (F Wb cap : Nat) (f : Fx) (h : FileAt W F Wb cap f) (w b r : Nat) (hw : w < f.nw) (hb : b < 17) (hr : r < 32) :
    Calls Tryz.prog 59 #[.pointer (some ⟨F, 0, none⟩), .int .i64 w, .int .i64 b, .int .i64 r] W fun e w' => e = .returned (.pointer (some (regA f F Wb w b r))) ∧ ∃ n, w' = W.drewN n := by
  have c0 : W.cell? ⟨F, 0, none⟩ = some (.int .i64 f.nw) := h.cells.cell (k := 0) rfl
  have c1 : W.cell? ⟨F, 1, none⟩ = some (.slice (some ⟨Wb, 0, none⟩) (16 * f.nw) cap) := h.cells.cell (k := 1) rfl
  have hn := h.ok.nw32
  have hn2 := h.ok.nw2
  clear h
  by_cases h8 : r < 8
  · have HR := mhid (show regA f F Wb w b r = ⟨F, 2 + b * 8 + r, none⟩ from by unfold regA; rw [if_pos h8])
    have g1 : (r : Int) < 8 := by omega
    go_enter Tryz.func59, Tryz.ntmps59
    go_wp2_with fail
    go_ret
    exact ⟨ret_addr HR.out.symm, 0, rfl⟩
  · have g1 : ¬ (r : Int) < 8 := by omega
    by_cases h16 : r < 16
    · have HR := mhid (show regA f F Wb w b r = ⟨Wb, 16 * ((w + f.nw - 1) % f.nw) + r, none⟩ from by unfold regA; rw [if_neg h8, if_pos h16])
      have g2 : (r : Int) < 16 := by omega
      have hm : (w + f.nw - 1) % f.nw < f.nw := Nat.mod_lt _ (by omega)
      have e1 : IntKind.i64.wrap ((w : Int) + f.nw) = w + f.nw := IntWalk.i64_in _ (by omega)
      have e2 : IntKind.i64.wrap ((w : Int) + f.nw - 1) = ((w + f.nw - 1 : Nat) : Int) := by rw [IntWalk.i64_in _ (by omega)]; omega
      have e3 : (((w + f.nw - 1 : Nat) : Int)).tmod (f.nw : Int) = (((w + f.nw - 1) % f.nw : Nat) : Int) := by rw [Int.tmod_eq_emod_of_nonneg (by omega)]; omega
      generalize (w + f.nw - 1) % f.nw = q at *
      generalize w + f.nw - 1 = q0 at *
      have e4 : IntKind.i64.wrap (q : Int) = q := IntWalk.i64_in _ (by omega)
      have e5 : ¬ ((f.nw : Int) = 0) := by omega
      go_enter Tryz.func59, Tryz.ntmps59
      go_wp2_with fail
      go_quiet (fail)
      go_wp2_with fail
      go_ret
      exact ⟨ret_addr HR.out.symm, _, rfl⟩
    · have HR := mhid (show regA f F Wb w b r = ⟨Wb, 16 * w + (r - 16), none⟩ from by unfold regA; rw [if_neg h8, if_neg h16])
      have g2 : ¬ (r : Int) < 16 := by omega
      go_enter Tryz.func59, Tryz.ntmps59
      go_wp2_with fail
      go_ret
      exact ⟨ret_addr (by rw [HR.out]; congr 1; omega), 0, rfl⟩
set_option maxHeartbeats 1000000 in
theorem fat_err (W : World) (F Wb cap : Nat) (f : Fx) (h : FileAt W F Wb cap f) (w b r : Int) (hx : ¬ regOk f w b r) (fn : Value) :
    Calls Tryz.prog 58 #[.pointer (some ⟨F, 0, none⟩), .int .i64 w, .int .i64 b, .int .i64 r, fn] W fun e w' => e = .returned (.tuple #[.pointer none, .int .i64 2]) ∧ W = w' := by
  have c0 : W.cell? ⟨F, 0, none⟩ = some (.int .i64 f.nw) := h.cells.cell (k := 0) rfl
  have HN := mhid (fnone_made W F f.nw (by have := h.ok.nw2; omega) c0)
  clear h
  have hc : w < 0 ∨ (¬ w < 0 ∧ (f.nw : Int) ≤ w) ∨ ((¬ w < 0 ∧ ¬ (f.nw : Int) ≤ w) ∧ b < 0) ∨ ((¬ w < 0 ∧ ¬ (f.nw : Int) ≤ w ∧ ¬ b < 0) ∧ 17 ≤ b) ∨ ((¬ w < 0 ∧ ¬ (f.nw : Int) ≤ w ∧ ¬ b < 0 ∧ ¬ 17 ≤ b) ∧ r < 0) ∨ ((¬ w < 0 ∧ ¬ (f.nw : Int) ≤ w ∧ ¬ b < 0 ∧ ¬ 17 ≤ b ∧ ¬ r < 0) ∧ 32 ≤ r) := by unfold regOk at hx; omega
  clear hx
  rcases hc with d1 | ⟨d1, d2⟩ | ⟨⟨d1, d2⟩, d3⟩ | ⟨⟨d1, d2, d3⟩, d4⟩ | ⟨⟨d1, d2, d3, d4⟩, d5⟩ | ⟨⟨d1, d2, d3, d4, d5⟩, d6⟩
  all_goals
    go_enter Tryz.func58, Tryz.ntmps58
    go_wp2_with fail
    refine HN.out.mono ?_
    rintro e w' ⟨rfl, rfl⟩
    go_wp2_with fail
    go_ret2
    exact ⟨rfl, rfl⟩
set_option maxHeartbeats 1000000 in
theorem fat_ok (W : World) (F Wb cap : Nat) (f : Fx) (h : FileAt W F Wb cap f) (w b r : Nat) (hw : w < f.nw) (hb : b < 17) (hr : r < 32) :
    Calls Tryz.prog 58 #[.pointer (some ⟨F, 0, none⟩), .int .i64 w, .int .i64 b, .int .i64 r, .func (.func 59) #[.pointer (some ⟨F, 0, none⟩)] #[]] W fun e w' => e = .returned (.tuple #[.pointer (some (regA f F Wb w b r)), .int .i64 0]) ∧ ∃ n, w' = W.drewN n := by
  have c0 : W.cell? ⟨F, 0, none⟩ = some (.int .i64 f.nw) := h.cells.cell (k := 0) rfl
  have HN := mhid (fnone_made W F f.nw (by have := h.ok.nw2; omega) c0)
  have HP := mhid (place_any W F Wb cap f h w b r hw hb hr)
  clear h
  have d1 : ¬ ((w : Int) < 0) := by omega
  have d2 : ¬ ((f.nw : Int) ≤ w) := by omega
  have d3 : ¬ ((b : Int) < 0) := by omega
  have d4 : ¬ (17 ≤ (b : Int)) := by omega
  have d5 : ¬ ((r : Int) < 0) := by omega
  have d6 : ¬ (32 ≤ (r : Int)) := by omega
  go_enter Tryz.func58, Tryz.ntmps58
  go_wp2_with fail
  refine HN.out.mono ?_
  rintro e w' ⟨rfl, rfl⟩
  go_wp2_with fail
  refine HP.out.mono ?_
  rintro e w' ⟨rfl, n, rfl⟩
  go_wp2_with fail
  go_ret2
  exact ⟨rfl, n, rfl⟩
theorem fget_any (W : World) (F Wb cap : Nat) (f : Fx) (h : FileAt W F Wb cap f) (w b r : Int) :
    Calls Tryz.prog 14 #[.pointer (some ⟨F, 0, none⟩), .int .i64 w, .int .i64 b, .int .i64 r] W fun e w' => e = .returned (.tuple #[.int .u32 (getV f w b r), .int .i64 (regE f w b r)]) ∧ ∃ n, w' = W.drewN n := by
  by_cases hx : regOk f w b r
  · have E := mhid (show getV f w b r = getF f w.toNat b.toNat r.toNat ∧ regE f w b r = 0 from ⟨if_pos hx, if_pos hx⟩)
    obtain ⟨⟨a1, a2⟩, ⟨a3, a4⟩, a5, a6⟩ := hx
    obtain ⟨w, rfl⟩ := Int.eq_ofNat_of_zero_le a1
    obtain ⟨b, rfl⟩ := Int.eq_ofNat_of_zero_le a3
    obtain ⟨r, rfl⟩ := Int.eq_ofNat_of_zero_le a5
    rw [Int.toNat_natCast, Int.toNat_natCast, Int.toNat_natCast] at E
    have HP := mhid (fat_ok W F Wb cap f h w b r (by omega) (by omega) (by omega))
    obtain ⟨x, hc, -, he⟩ := h.reg (w := w) (b := b) (r := r) (by omega) (by omega) (by omega)
    have HE := mhid he
    clear he h
    by_cases h0 : r = 0
    · have HZ := mhid (show getF f w b r = 0 from if_pos h0)
      have q0 : ((r : Int) == 0) = true := by simp [h0]
      have H0 := mhid h0
      clear h0 hc
      go_enter Tryz.func14, Tryz.ntmps14
      go_wp2_with fail
      refine HP.out.mono ?_
      rintro e w' ⟨rfl, n, rfl⟩
      go_wp2_with fail
      go_ret2
      exact ⟨mret_ii (by rw [E.out.1, HZ.out]) E.out.2.symm, n, rfl⟩
    · have q0 : ((r : Int) == 0) = false := by simp; omega
      generalize regA f F Wb w b r = A at *
      have hd : ∀ n, (W.drewN n).cell? A = some (.int .u32 x) := fun n => hc
      have HD := mhid hd
      clear h0 hc hd
      go_enter Tryz.func14, Tryz.ntmps14
      go_wp2_with fail
      refine HP.out.mono ?_
      rintro e w' ⟨rfl, n, rfl⟩
      have hc := HD.out n
      go_wp2_with fail
      go_ret2
      exact ⟨mret_ii (by rw [E.out.1, HE.out (by simp at q0; omega)]) E.out.2.symm, n, rfl⟩
  · have E := mhid (show getV f w b r = 0 ∧ regE f w b r = 2 from ⟨if_neg hx, if_neg hx⟩)
    have HP := mhid (fat_err W F Wb cap f h w b r hx (.func (.func 59) #[.pointer (some ⟨F, 0, none⟩)] #[]))
    clear h hx
    go_enter Tryz.func14, Tryz.ntmps14
    go_wp2_with fail
    refine HP.out.mono ?_
    rintro e w' ⟨rfl, rfl⟩
    go_wp2_with fail
    go_ret2
    exact ⟨mret_ii E.out.1.symm E.out.2.symm, 0, rfl⟩
end Go.Proofs.YtajholbcpmjhiaaGreatDoor
/- The walks of file.Set, New, Window, Copy. -/
namespace Go.Proofs.YtajholbcpmjhiaaGreatDoor
open Go.RowKit
def FSets (F Wb cap : Nat) (f : Fx) (w b r x : Int) (W : World) (e : Ending) (w' : World) : Prop :=
  e = .returned (.int .i64 (regE f w b r)) ∧ FileAt w' F Wb cap (setV f w b r x) ∧ Only (fun k => k = F ∨ k = Wb) W w' ∧ w'.heap.size = W.heap.size
set_option maxHeartbeats 1000000 in
theorem fset_any (W : World) (F Wb cap : Nat) (f : Fx) (h : FileAt W F Wb cap f) (w b r x : Int) (hx : 0 ≤ x ∧ x < 4294967296) :
    Calls Tryz.prog 20 #[.pointer (some ⟨F, 0, none⟩), .int .i64 w, .int .i64 b, .int .i64 r, .int .u32 x] W (FSets F Wb cap f w b r x W) := by
  by_cases hr : regOk f w b r
  · have E := mhid (show setV f w b r x = setF f w.toNat b.toNat r.toNat x ∧ regE f w b r = 0 from ⟨if_pos hr, if_pos hr⟩)
    obtain ⟨⟨a1, a2⟩, ⟨a3, a4⟩, a5, a6⟩ := hr
    obtain ⟨w, rfl⟩ := Int.eq_ofNat_of_zero_le a1
    obtain ⟨b, rfl⟩ := Int.eq_ofNat_of_zero_le a3
    obtain ⟨r, rfl⟩ := Int.eq_ofNat_of_zero_le a5
    rw [Int.toNat_natCast, Int.toNat_natCast, Int.toNat_natCast] at E
    have HP := mhid (fat_ok W F Wb cap f h w b r (by omega) (by omega) (by omega))
    obtain ⟨y, hc, hz, -⟩ := h.reg (w := w) (b := b) (r := r) (by omega) (by omega) (by omega)
    have HF := mhid h
    by_cases h0 : r = 0
    · have HZ := mhid (show setF f w b r x = f from if_pos h0)
      have q0 : ¬ (0 < (r : Int)) := by omega
      have q1 : ¬ (0 < r) := by omega
      clear h h0 hc hz
      go_enter Tryz.func20, Tryz.ntmps20
      go_wp2_with fail
      refine HP.out.mono ?_
      rintro e w' ⟨rfl, n, rfl⟩
      go_wp2_with fail
      go_ret
      have ho : Only (fun k => k = F ∨ k = Wb) W (W.drewN n) := (Only.refl _ _).drewN n
      exact ⟨mret_i E.out.2.symm, by rw [E.out.1, HZ.out]; exact HF.out.keepb ((Only.refl (fun _ => False) W).drewN n |>.below (Nat.le_refl _) (fun _ _ => id)), ho, rfl⟩
    · have q0 : 0 < (r : Int) := by omega
      have q1 : 0 < r := by omega
      have hd : ∀ n, FileAt ((W.drewN n).setCell (regA f F Wb w b r) (.int .u32 x)) F Wb cap (setF f w b r x) := fun n =>
        (h.keepb ((Only.refl (fun _ => False) W).drewN n |>.below (Nat.le_refl _) (fun _ _ => id))).put (by omega) (by omega) (by omega) q1 hx
      have hb := regA_block f F Wb w b r
      have HD := mhid (And.intro hd hb)
      clear h hd hb h0
      generalize regA f F Wb w b r = A at *
      have hcd : ∀ n, (W.drewN n).cell? A = some (.int .u32 y) ∧ (W.drewN n).frozen? A = false := fun n => ⟨hc, hz⟩
      have HC := mhid hcd
      clear hc hz hcd
      go_enter Tryz.func20, Tryz.ntmps20
      go_wp2_with fail
      refine HP.out.mono ?_
      rintro e w' ⟨rfl, n, rfl⟩
      obtain ⟨hc, hz⟩ := HC.out n
      go_wp2_with fail
      go_ret
      exact ⟨mret_i E.out.2.symm, by rw [E.out.1]; exact HD.out.1 n, ((Only.refl _ _).drewN n).setCell (HD.out.2) _, by simp [World.setCell]⟩
  · have E := mhid (show setV f w b r x = f ∧ regE f w b r = 2 from ⟨if_neg hr, if_neg hr⟩)
    have HP := mhid (fat_err W F Wb cap f h w b r hr (.func (.func 59) #[.pointer (some ⟨F, 0, none⟩)] #[]))
    have HF := mhid h
    clear h hr
    go_enter Tryz.func20, Tryz.ntmps20
    go_wp2_with fail
    refine HP.out.mono ?_
    rintro e w' ⟨rfl, rfl⟩
    go_wp2_with fail
    go_ret
    exact ⟨mret_i E.out.2.symm, by rw [E.out.1]; exact HF.out, Only.refl _ _, rfl⟩
def FMakes (f : Fx) (w : World) (e : Ending) (w' : World) : Prop :=
  ∃ F Wb cap, e = .returned (.tuple #[.pointer (some ⟨F, 0, none⟩), .int .i64 0]) ∧ w.heap.size ≤ F ∧ w.heap.size ≤ Wb ∧ FileAt w' F Wb cap f ∧ Below w.heap.size w w'
set_option maxRecDepth 100000 in
theorem fzero : Tryz.zeroCells111 = (Value.int .i64 0 :: Value.slice none 0 0 :: u32s (List.replicate 136 0)).toArray := by kernel_rfl
set_option maxRecDepth 100000 in
set_option maxHeartbeats 1000000 in
theorem fnew_ok (n : Nat) (w : World) (h2 : 2 ≤ n) (h32 : n ≤ 32) : Calls Tryz.prog 121 #[.int .i64 n] w (FMakes (Fx.new n) w) := by
  obtain ⟨i0, hi, hz0, hz1, hz2⟩ := info_parts info32
  have hq2 : i0.bytes * (16 * n) ≤ 281474976710656 := by rw [hz2]; omega
  have hq3 : 16 * n ≤ maxLen := by unfold maxLen; omega
  have h5 : ¬ ((n : Int) < 2) := by omega
  have h6 : ¬ (32 < (n : Int)) := by omega
  go_enter Tryz.func121, Tryz.ntmps121
  go_wp2_with (at_make; refine wpList_make_full _ rfl _ _ 22 rfl w.heap.size 24 i0 (.int .u32 0) 1 Tryz.underlying22 hi hz0 hz1 .i64 .i64 (16 * n) (16 * n) (16 * n) rfl rfl rfl rfl hq2 hq3 (Nat.le_refl _) ?_; intro w1 hown hgrow)
  have hsz := hgrow.size
  have hr : (madeCells (Value.int .u32 0).cells (16 * n * 1)).toList = u32s (List.replicate (16 * n) 0) := by
    rw [Nat.mul_one]; unfold u32s; rw [List.map_replicate]; exact toList_madeCells_one _ (16 * n)
  rw [hr] at hown
  obtain ⟨g, c, hv, hg, hrow⟩ := VRow.of_own hown (fun e => by cases e)
  cases hv
  have hb : Below w.heap.size w w1 := (Below.refl _ w).grown hgrow (Nat.le_refl _) (fun k e => by cases e)
  go_ret2
  rw [fzero]
  have hcs : ((Value.int .i64 0 :: Value.slice none 0 0 :: u32s (List.replicate 136 0)).toArray.setIfInBounds 0 (Value.int .i64 n)).setIfInBounds 1 (Value.slice (some ⟨w.heap.size, 0, none⟩) (16 * n) (16 * n)) = (Value.int .i64 n :: Value.slice (some ⟨w.heap.size, 0, none⟩) (16 * n) (16 * n) :: u32s (List.replicate 136 0)).toArray := by
    apply Array.ext'
    simp
  rw [hcs]
  refine ⟨w1.heap.size, w.heap.size, 16 * n, rfl, hsz, Nat.le_refl _, ⟨Fx.ok.new h2 h32, ?_, ?_, ?_, Nat.le_refl _, hq3⟩, hb.alloc hsz _⟩
  · have := ARow.fresh w1 111 (Value.int .i64 n :: Value.slice (some ⟨w.heap.size, 0, none⟩) (16 * n) (16 * n) :: u32s (List.replicate 136 0)).toArray
    simpa [Fx.new] using this
  · exact hrow.alloc _
  · have := hrow.lt; omega
end Go.Proofs.YtajholbcpmjhiaaGreatDoor
/- The walks of file.Window and Copy. -/
namespace Go.Proofs.YtajholbcpmjhiaaGreatDoor
open Go.RowKit
def winR (f : Fx) (w : Nat) : List Int := (f.win.drop (16 * w)).take 16
theorem winR_len {f : Fx} (h : f.ok) {w : Nat} (hw : w < f.nw) : (winR f w).length = 16 := by
  have := h.wl
  unfold winR; rw [List.length_take, List.length_drop]; omega
def winV (f : Fx) (w : Int) : List Int := if regOk f w 0 0 then winR f w.toNat else []
def FTells (f : Fx) (w : Int) (W : World) (e : Ending) (w' : World) : Prop :=
  ∃ v, e = .returned (.tuple #[v, .int .i64 (regE f w 0 0)]) ∧ w'.ownsRow W.heap.size 24 1 v (winV f w).length (u32s (winV f w)) ∧ Below W.heap.size W w'
set_option maxHeartbeats 1000000 in
theorem own_whole {w : World} {base n g : Nat} {t : TypeId} {xs : List Value} (h : w.ownsRow base t 1 (.slice (some ⟨g, 0, none⟩) n n) n xs) : ARow w g t xs ∧ base ≤ g := by
  rcases h.2 with ⟨h1, _⟩ | ⟨g', cap, cur, h1, h2, h3, h4, h5, h6, h7⟩
  · cases h1
  · cases h1
    refine ⟨?_, h2⟩
    have : cur = xs.toArray := by
      apply Array.ext'
      rw [← h7, List.take_of_length_le (by simp; omega)]
    unfold ARow; rw [h3, this]
theorem whole_own {w : World} {base n g : Nat} {t : TypeId} {xs : List Value} (h : ARow w g t xs) (hb : base ≤ g) (hl : xs.length = n) (hm : n ≤ maxLen) : w.ownsRow base t 1 (.slice (some ⟨g, 0, none⟩) n n) n xs :=
  ⟨by omega, .inr ⟨g, n, xs.toArray, rfl, hb, h, Nat.le_refl _, hm, by simp; omega, by rw [List.take_of_length_le (by simp; omega)]⟩⟩
theorem winR_news {W : World} {Wb : Nat} {f : Fx} (h : VRow W Wb 24 (u32s f.win)) (hl : f.win.length = 16 * f.nw) {w : Nat} (hw : w < f.nw) : ∀ j v, (u32s (winR f w))[j]? = some v → W.cell? ((⟨Wb, 16 * w, none⟩ : Addr).add j) = some v := by
  intro j v hj
  have hjl : j < (winR f w).length := by have := (List.getElem?_eq_some_iff.1 hj).1; simpa [u32s] using this
  have e : (⟨Wb, 16 * w, none⟩ : Addr).add j = ⟨Wb, 16 * w + j, none⟩ := by unfold Addr.add; split <;> simp_all
  rw [e]
  refine h.cell ?_
  have hj16 : j < 16 := by unfold winR at hjl; rw [List.length_take] at hjl; omega
  rw [← hj]
  unfold u32s winR
  rw [List.getElem?_map, List.getElem?_map, List.getElem?_take_of_lt hj16, List.getElem?_drop]
theorem ftell_ret {v : Value} {a b : Int} (h : a = b) : Ending.returned (.tuple #[v, .int .i64 a]) = .returned (.tuple #[v, .int .i64 b]) := by rw [h]
set_option maxRecDepth 100000 in
set_option maxHeartbeats 2000000 in
theorem fwin_any (W : World) (F Wb cap : Nat) (f : Fx) (h : FileAt W F Wb cap f) (w : Int) :
    Calls Tryz.prog 13 #[.pointer (some ⟨F, 0, none⟩), .int .i64 w] W (FTells f w W) := by
  by_cases hr : regOk f w 0 0
  · have E := mhid (show winV f w = winR f w.toNat ∧ regE f w 0 0 = 0 from ⟨if_pos hr, if_pos hr⟩)
    obtain ⟨⟨a1, a2⟩, -⟩ := hr
    obtain ⟨w, rfl⟩ := Int.eq_ofNat_of_zero_le a1
    rw [Int.toNat_natCast] at E
    have hw : w < f.nw := by omega
    have HP := mhid (fat_ok W F Wb cap f h w 0 0 hw (by omega) (by omega))
    have hlen := winR_len h.ok hw
    have hwl := h.ok.wl
    have h32 := h.ok.nw32
    have hc1 := h.c1
    have hc2 := h.c2
    have HF := mhid h
    clear h
    obtain ⟨i0, hi, hz0, hz1, hz2⟩ := info_parts info32
    have hq2 : i0.bytes * 16 ≤ 281474976710656 := by rw [hz2]; omega
    have hq3 : 16 ≤ maxLen := by unfold maxLen; omega
    have HCN := mhid (show (u32s (winR f w)).length = Nat.min (16 * f.nw - 16 * w) 16 from by rw [u32s, List.length_map, hlen]; exact (Nat.min_eq_right (by omega)).symm)
    have HCF := mhid (show 0 + (u32s (winR f w)).length ≤ ((madeCells (Value.int .u32 0).cells (16 * 1)).toList).length from by rw [u32s, List.length_map, hlen]; simp [madeCells])
    unfold maxLen at hc2
    go_enter Tryz.func13, Tryz.ntmps13
    go_wp2_with fail
    refine HP.out.mono ?_
    rintro e w' ⟨rfl, n, rfl⟩
    have hbn : Below W.heap.size W (W.drewN n) := ((Only.refl (fun _ => False) W).drewN n).below (Nat.le_refl _) (fun _ _ => id)
    have HF2 := mhid (HF.out.keepb hbn)
    have hsz : W.heap.size ≤ (W.drewN n).heap.size := hbn.size
    have HBN := mhid hbn
    generalize W.drewN n = W1 at *
    go_wp2_with (first | (at_make; refine wpList_make_full _ rfl _ _ 22 rfl W1.heap.size 24 i0 (.int .u32 0) 1 Tryz.underlying22 hi hz0 hz1 .i64 .i64 16 16 16 rfl rfl rfl rfl hq2 hq3 (Nat.le_refl _) ?_; intro w1 hown hgrow; have hb1 : Below W1.heap.size W1 w1 := (Below.refl _ W1).grown hgrow (Nat.le_refl _) (fun k e => by cases e); have c1 : w1.cell? ⟨F, 1, none⟩ = some (.slice (some ⟨Wb, 0, none⟩) (16 * f.nw) cap) := (HF2.out.keepb hb1).cells.cell (k := 1) rfl; have HO := mhid (own_whole hown); have HNW := mhid (winR_news (HF2.out.keepb hb1).win hwl hw))
                         | (have _t := HO; refine wpList_copy_splice (o := ⟨some 29, _, _, _, _, _⟩) rfl (.tmp 21) (.tmp 28) 22 22 rfl 24 Tryz.underlying22 (by kernel_rfl) _ _ 16 16 _ _ rfl rfl W1.heap.size 0 _ _ HO.out.1 (u32s (winR f w)) HCN.out (fun _ => ⟨rfl, _, rfl, HNW.out⟩) HCF.out u32s_one W.heap.size W (HBN.out.trans (hb1.mono hsz)) hsz ?_; intro w2 hw2 hb2))
    have hsp : splice (madeCells (Value.int .u32 0).cells (16 * 1)).toList 0 (u32s (winR f w)) = u32s (winR f w) := by
      unfold splice
      have e1 : (madeCells (Value.int .u32 0).cells (16 * 1)).toList.length = 16 := by simp [madeCells]
      have e2 : (u32s (winR f w)).length = 16 := by rw [u32s, List.length_map, hlen]
      rw [List.drop_eq_nil_of_le (by omega)]; simp
    have hrow : ARow w2 W1.heap.size 24 (u32s (winR f w)) := by rw [← hsp]; exact hw2.out
    go_ret2
    refine ⟨_, ftell_ret E.out.2.symm, ?_, hb2⟩
    rw [E.out.1, hlen]
    exact whole_own hrow hsz (by rw [u32s, List.length_map, hlen]) hq3
  · have E := mhid (show winV f w = [] ∧ regE f w 0 0 = 2 from ⟨if_neg hr, if_neg hr⟩)
    have HP := mhid (fat_err W F Wb cap f h w 0 0 hr (.func (.func 59) #[.pointer (some ⟨F, 0, none⟩)] #[]))
    clear h hr
    go_enter Tryz.func13, Tryz.ntmps13
    go_wp2_with fail
    refine HP.out.mono ?_
    rintro e w' ⟨rfl, rfl⟩
    go_wp2_with fail
    go_ret2
    refine ⟨_, ftell_ret E.out.2.symm, ?_, Below.refl _ _⟩
    rw [E.out.1]
    exact World.ownsRow_nil _ _ _ _
end Go.Proofs.YtajholbcpmjhiaaGreatDoor
