/- The walks of shape.goes and muntinref14.Next. -/
import Derived.Test.YthahjnjkiljaaaaShapeRegs
namespace Go.Proofs.Ythahjnjkiljaaaa
open Go.RowKit
set_option linter.unusedVariables false
set_option linter.unusedSimpArgs false
def goesS (x : Insx) : List Int := if x.op = 8 then [x.l1] else if x.op = 9 then [x.l1, x.l2] else []
set_option maxRecDepth 100000 in
set_option maxHeartbeats 1000000 in
theorem goes_any (x : Insx) (av : Value) (pa : Option Addr) (n c : Nat) (hav : av = .slice pa n c) (w : World) :
    Calls Try.prog 40 #[x.agg av] w (IntsOwn w (goesS x)) := by
  subst hav
  have HG := shid (show goesS x = if x.op = 8 then [x.l1] else if x.op = 9 then [x.l1, x.l2] else [] from rfl)
  have HBX := shid (IBox.new w x (.slice pa n c) 44)
  have HW0 := shid (al1 w (.cells #[.int .u8 x.op, .int .i64 x.d, .int .i64 x.a, .int .i64 x.b, .int .u32 x.n, .int .i64 x.f, .slice pa n c, .int .i64 x.l1, .int .i64 x.l2] 44))
  unfold Insx.agg
  by_cases h8 : x.op = 8
  · have e8 : (x.op == 8) = true := by simpa using h8
    have HR := shid (show goesS x = [x.l1] by rw [HG.out, if_pos h8])
    clear h8 HG
    obtain ⟨_, b0, _, _, _, _, _, _, b7, b8⟩ := HBX.out
    go_enter Try.func40, Try.ntmps40
    go_wp2_with fail
    go_ret
    rw [HR.out]
    have ho := own_new (w.alloc (.cells #[.int .u8 x.op, .int .i64 x.d, .int .i64 x.a, .int .i64 x.b, .int .u32 x.n, .int .i64 x.f, .slice pa n c, .int .i64 x.l1, .int .i64 x.l2] 44)) w.heap.size #[.int .i64 x.l1] 3 1 1 rfl (by simp [maxLen]) (by simp)
    rw [World.size_alloc] at ho
    exact ⟨_, rfl, ho, al2 _ _ _⟩
  · have e8 : (x.op == 8) = false := by simpa using h8
    by_cases h9 : x.op = 9
    · have e9 : (x.op == 9) = true := by simpa using h9
      have HR := shid (show goesS x = [x.l1, x.l2] by rw [HG.out, if_neg h8, if_pos h9])
      clear h8 h9 HG
      obtain ⟨_, b0, _, _, _, _, _, _, b7, b8⟩ := HBX.out
      go_enter Try.func40, Try.ntmps40
      go_wp2_with fail
      go_ret
      rw [HR.out]
      have ho := own_new (w.alloc (.cells #[.int .u8 x.op, .int .i64 x.d, .int .i64 x.a, .int .i64 x.b, .int .u32 x.n, .int .i64 x.f, .slice pa n c, .int .i64 x.l1, .int .i64 x.l2] 44)) w.heap.size #[.int .i64 x.l1, .int .i64 x.l2] 3 2 1 rfl (by simp [maxLen]) (by simp)
      rw [World.size_alloc] at ho
      exact ⟨_, rfl, ho, al2 _ _ _⟩
    · have e9 : (x.op == 9) = false := by simpa using h9
      have HR := shid (show goesS x = [] by rw [HG.out, if_neg h8, if_neg h9])
      clear h8 h9 HG
      obtain ⟨_, b0, _, _, _, _, _, _, b7, b8⟩ := HBX.out
      go_enter Try.func40, Try.ntmps40
      go_wp2_with fail
      go_ret
      rw [HR.out]
      exact ⟨_, rfl, World.ownsRow_nil _ _ _ _, HW0.out⟩
set_option maxRecDepth 100000 in
set_option maxHeartbeats 1000000 in
theorem next_any (nm : ByteArray) (l : List Insx) (pi : Option Addr) (ci : Nat) (x : Insx) (hx : l[l.length - 1]? = some x) (w : World) (hI : InsxIn w (.slice pi l.length ci) l) :
    Calls Try.prog 47 #[.agg #[.string nm, .slice pi l.length ci]] w (IntsOwn w (goesS x)) := by
  have hlen : l.length - 1 < l.length := (List.getElem?_eq_some_iff.1 hx).1
  obtain ⟨k, hk⟩ : ∃ k, l.length = k + 1 := ⟨l.length - 1, by omega⟩
  have hkl : l.length - 1 = k := by omega
  rw [hkl] at hx
  obtain ⟨pbb, cbb, b, o, hbe, hbl, HBS⟩ := hI.hids
  cases hbe
  obtain rfl := HBS.out.1 (by omega)
  have HW0 := shid (al1 w (.cells #[.string nm, .slice (some ⟨b, o, none⟩) l.length ci] 40))
  obtain ⟨d0, d1, d2, d3, d4, d5, ⟨va, d6, hva⟩, d7, d8, hybd⟩ := (HBS.out.2 k x hx).keep HW0.out
  obtain ⟨pa, ca, rfl⟩ := hva.shape
  have HG := shid (show goesS x = if x.op = 8 then [x.l1] else if x.op = 9 then [x.l1, x.l2] else [] from rfl)
  have HBX := shid (IBox.new (w.alloc (.cells #[.string nm, .slice (some ⟨b, o, none⟩) l.length ci] 40)) x (.slice pa x.args.length ca) 44)
  have hb0 := BBox.new w nm (.slice (some ⟨b, o, none⟩) l.length ci) 40
  obtain ⟨_, f0, f1⟩ := hb0
  simp only [World.size_alloc] at HBX
  have hL : (l.length : Int) - 1 = k := by omega
  have HL := shid hk
  have hkl2 : k < l.length := by omega
  have hkl3 : (k : Int) < l.length := by omega
  clear hk hkl hI hva hx
  by_cases h8 : x.op = 8
  · have e8 : (x.op == 8) = true := by simpa using h8
    have HR := shid (show goesS x = [x.l1] by rw [HG.out, if_pos h8])
    clear h8 HG
    obtain ⟨_, b0, _, _, _, _, _, _, b7, b8⟩ := HBX.out
    go_enter Try.func47, Try.ntmps47
    go_wp2_with fail
    go_ret
    rw [HR.out]
    have ho := own_new ((w.alloc (.cells #[.string nm, .slice (some ⟨b, o, none⟩) l.length ci] 40)).alloc (.cells #[.int .u8 x.op, .int .i64 x.d, .int .i64 x.a, .int .i64 x.b, .int .u32 x.n, .int .i64 x.f, .slice pa x.args.length ca, .int .i64 x.l1, .int .i64 x.l2] 44)) w.heap.size #[.int .i64 x.l1] 3 1 1 rfl (by simp [maxLen]) (by simp; omega)
    simp only [World.size_alloc] at ho
    exact ⟨_, rfl, ho, al3 _ _ _ _⟩
  · have e8 : (x.op == 8) = false := by simpa using h8
    by_cases h9 : x.op = 9
    · have e9 : (x.op == 9) = true := by simpa using h9
      have HR := shid (show goesS x = [x.l1, x.l2] by rw [HG.out, if_neg h8, if_pos h9])
      clear h8 h9 HG
      obtain ⟨_, b0, _, _, _, _, _, _, b7, b8⟩ := HBX.out
      go_enter Try.func47, Try.ntmps47
      go_wp2_with fail
      go_ret
      rw [HR.out]
      have ho := own_new ((w.alloc (.cells #[.string nm, .slice (some ⟨b, o, none⟩) l.length ci] 40)).alloc (.cells #[.int .u8 x.op, .int .i64 x.d, .int .i64 x.a, .int .i64 x.b, .int .u32 x.n, .int .i64 x.f, .slice pa x.args.length ca, .int .i64 x.l1, .int .i64 x.l2] 44)) w.heap.size #[.int .i64 x.l1, .int .i64 x.l2] 3 2 1 rfl (by simp [maxLen]) (by simp; omega)
      simp only [World.size_alloc] at ho
      exact ⟨_, rfl, ho, al3 _ _ _ _⟩
    · have e9 : (x.op == 9) = false := by simpa using h9
      have HR := shid (show goesS x = [] by rw [HG.out, if_neg h8, if_neg h9])
      clear h8 h9 HG
      obtain ⟨_, b0, _, _, _, _, _, _, b7, b8⟩ := HBX.out
      go_enter Try.func47, Try.ntmps47
      go_wp2_with fail
      go_ret
      rw [HR.out]
      exact ⟨_, rfl, World.ownsRow_nil _ _ _ _, al2 _ _ _⟩
end Go.Proofs.Ythahjnjkiljaaaa
