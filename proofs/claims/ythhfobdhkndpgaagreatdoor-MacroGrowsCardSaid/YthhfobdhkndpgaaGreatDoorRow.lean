import Derived.LaidMore
import Derived.Lay
import Derived.OpenShut
import Derived.ProofKit
import Derived.SevenTiedAt
import Derived.Stop.Joined
import Derived.Test.YthhfobdhkndpgaaGreatDoorCards
import Derived.Test.YthhfobdhkndpgaaGreatDoorEvB
import Derived.Test.YthhfobdhkndpgaaGreatDoorOrd
import Derived.Test.YthhfobdhkndpgaaGreatDoorTab
import Derived.Test.YthhfobdhkndpgaaGreatDoorTie
set_option linter.all false
/- MacroGrows: the row, out of the law's runs. -/
set_option maxRecDepth 100000
namespace Go.Proofs.YthhfobdhkndpgaaGreatDoor
open Go.ChangeShapes Go.WideShapes Go.ChangeAt Go.RowKit Go.Ev
abbrev laid0 : List (String × DataW Unit) := [("unicode/utf8.acceptRanges", Rows.laid_unicode_utf8_acceptRanges), ("unicode/utf8.first", Rows.laid_unicode_utf8_first)]
theorem own : ownKnob Tryz.prog.godebug = none := by kernel_rfl
theorem firstD : (Rows.laid_unicode_utf8_first : DataW Unit) = .agg (firstL.map fun (n : Nat) => .lit (.int .u8 (n : Int))) := by kernel_rfl
def pairs : List Nat → List (DataW Unit)
  | a :: b :: l => .agg [.lit (.int .u8 (a : Int)), .lit (.int .u8 (b : Int))] :: pairs l
  | _ => []
theorem pairs_get : ∀ (l : List Nat) (i : Nat), i * 2 + 1 < l.length → (pairs l)[i]? = some (.agg [.lit (.int .u8 ((l.getD (i * 2) 0 : Nat) : Int)), .lit (.int .u8 ((l.getD (i * 2 + 1) 0 : Nat) : Int))])
  | [], i, h => by simp at h
  | [_], i, h => by simp at h
  | a :: b :: l, 0, h => by simp [pairs]
  | a :: b :: l, i + 1, h => by
    have := pairs_get l i (by simp at h; omega)
    rw [show (i + 1) * 2 = i * 2 + 1 + 1 from by omega]
    simpa [pairs] using this
theorem acceptD : (Rows.laid_unicode_utf8_acceptRanges : DataW Unit) = .agg (pairs acceptL) := by kernel_rfl
theorem cells_of {W : World} (h : laidMetH Tryz.prog laid0 W) :
    (∀ r, r < 256 → W.cell? ⟨0, r, none⟩ = some (.int .u8 ((firstL.getD r 0 : Nat) : Int))) ∧ (∀ r, r < 32 → W.cell? ⟨1, r, none⟩ = some (.int .u8 ((acceptL.getD r 0 : Nat) : Int))) := by
  rw [MakeChecks.laidMetH_plain _ _ _ (by kernel_rfl)] at h
  obtain ⟨ps, ⟨g1, t1, cs1, f1, p1, q1, hg1, ht1, hv1, hd1, ⟨g0, t0, cs0, f0, p0, q0, hg0, ht0, hv0, hd0, _, _⟩, _⟩, _, _⟩ := h
  obtain rfl := Option.some.inj ((show Tryz.prog.globalNamed "unicode/utf8.first" = some 0 by kernel_rfl).symm.trans hg0)
  obtain rfl := Option.some.inj ((show (Tryz.prog.globals[0]?).map (·.type) = some 153 by kernel_rfl).symm.trans ht0)
  obtain rfl := Option.some.inj ((show Tryz.prog.globalNamed "unicode/utf8.acceptRanges" = some 1 by kernel_rfl).symm.trans hg1)
  obtain rfl := Option.some.inj ((show (Tryz.prog.globals[1]?).map (·.type) = some 156 by kernel_rfl).symm.trans ht1)
  have c5 : Tryz.prog.cellsOf 5 = 1 := by kernel_rfl
  have c155 : Tryz.prog.cellsOf 155 = 2 := by kernel_rfl
  constructor
  · intro r hr
    obtain ⟨xs, m, _, ex, _, hl, hel⟩ := DataW.trod_array Tryz.underlying153 hd0
    have hE := hel r hr
    rw [c5, Nat.mul_one, List.getElem?_eq_getElem (by omega)] at hE
    obtain ⟨z, e1, e2, _⟩ := DataW.trod_int Tryz.underlying5 hE
    have hlen : firstL.length = 256 := by kernel_rfl
    rw [firstD] at ex
    have e3 : (xs.map (·.1)) = firstL.map fun (n : Nat) => .lit (.int .u8 (n : Int)) := (DataW.agg.inj (Prod.mk.inj ex).1).symm
    have e4 : (xs.map (·.1))[r]? = (firstL.map fun (n : Nat) => (DataW.lit (.int .u8 (n : Int)) : DataW Unit))[r]? := by rw [e3]
    rw [List.getElem?_map, List.getElem?_map, List.getElem?_eq_getElem (by omega : r < xs.length), List.getElem?_eq_getElem (by omega : r < firstL.length), e2] at e4
    have hz : z = ((firstL.getD r 0 : Nat) : Int) := by
      simp only [Option.map_some, Option.some.injEq, DataW.lit.injEq, Lit.int.injEq, true_and] at e4
      rw [e4, List.getD, List.getElem?_eq_getElem (by omega : r < firstL.length)]; rfl
    rw [World.var?_cell hg0 hv0 r, ← hz]
    have : cs0.toList[r]? = some (.int .u8 z) := by
      have h0 : ((cs0.toList.drop r).take 1)[0]? = some (.int .u8 z) := by rw [e1]; rfl
      simpa using h0
    simpa using this
  · intro r hr
    obtain ⟨xs, m, _, ex, hcl, hl, hel⟩ := DataW.trod_array Tryz.underlying156 hd1
    obtain ⟨i, j, hj, rfl⟩ : ∃ i j, j < 2 ∧ r = i * 2 + j := ⟨r / 2, r % 2, by omega, by omega⟩
    have hE := hel i (by omega)
    rw [c155, List.getElem?_eq_getElem (by omega)] at hE
    have hcs : cs1.toList.length = 32 := hcl.trans (by kernel_rfl)
    obtain ⟨y0, y1, m', e2, hc2, u0, u1⟩ := trod_struct2 Tryz.underlying155 hE
    rw [c5] at u0 u1
    obtain ⟨z0, a0, b0, _⟩ := DataW.trod_int Tryz.underlying5 u0
    obtain ⟨z1, a1, b1, _⟩ := DataW.trod_int Tryz.underlying5 u1
    rw [acceptD] at ex
    have e3 : (xs.map (·.1)) = pairs acceptL := (DataW.agg.inj (Prod.mk.inj ex).1).symm
    have e4 : (xs.map (·.1))[i]? = (pairs acceptL)[i]? := by rw [e3]
    rw [List.getElem?_map, List.getElem?_eq_getElem (by omega : i < xs.length), e2, b0, b1, pairs_get acceptL i (by rw [show acceptL.length = 32 by kernel_rfl]; omega)] at e4
    simp only [Option.map_some, Option.some.injEq, DataW.agg.injEq, List.cons.injEq, DataW.lit.injEq, Lit.int.injEq, true_and, and_true] at e4
    rw [World.var?_cell hg1 hv1 (i * 2 + j)]
    have hd : cs1.toList[i * 2 + j]? = ((cs1.toList.drop (i * 2)).take 2)[j]? := by rw [List.getElem?_take_of_lt hj, List.getElem?_drop]
    have h0 : ((cs1.toList.drop (i * 2)).take 2)[0]? = some (.int .u8 z0) := by
      have := congrArg (·[0]?) a0
      simpa using this
    have h1 : ((cs1.toList.drop (i * 2)).take 2)[1]? = some (.int .u8 z1) := by
      have := congrArg (·[0]?) a1
      simpa using this
    rw [← Array.getElem?_toList, hd]
    match j, hj with
    | 0, _ => rw [h0, e4.1]; rfl
    | 1, _ => rw [h1, e4.2]
end Go.Proofs.YthhfobdhkndpgaaGreatDoor
