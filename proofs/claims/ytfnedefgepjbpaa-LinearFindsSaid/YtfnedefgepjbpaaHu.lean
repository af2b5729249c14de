/- From what the statement reads to instructions. -/
import Derived.Test.YtfnedefgepjbpaaHt
import Derived.Test.YtfnedefgepjbpaaIa
set_option linter.unusedSimpArgs false
set_option linter.unusedVariables false
namespace Go.HL
open Go Go.Deep Go.ChangeShapes Go.WideShapes
section
variable {H : Type} {enc : TypeId × Value → H} {P : Program} {w : World} {base : Nat} {spare : Nat → Bool} {held : Bool}
theorem flat_ins {e t0 t1 : TypeId} {f0 f1 f2 f3 f4 f5 f6 f7 f8 : Field} (he : P.underlying e = some (.struct #[f0, f1, f2, f3, f4, f5, f6, f7, f8]))
    (ho : [f0.offset, f1.offset, f2.offset, f3.offset, f4.offset, f5.offset, f6.offset, f7.offset, f8.offset] = [0, 1, 2, 3, 4, 5, 6, 7, 8])
    (ht : [f0.type, f1.type, f2.type, f3.type, f4.type, f5.type, f6.type, f7.type, f8.type] = [t0, t0, t1, t1, t1, t1, t1, t1, t1])
    (c0 : P.cellsOf t0 = 1) (c1 : P.cellsOf t1 = 1) (u0 : P.underlying t0 = some (.int .u32)) (u1 : P.underlying t1 = some (.int .i64))
    {n : Nat} {cs : List Value} {y : DataW H × List MemPlace} (hl : cs.length = 9) (h : DataW.trod enc P w base spare held n e cs = some y) : ∃ i, cs = encIns.enc i ∧ InsOK i := by
  simp only [List.cons.injEq, and_true] at ho ht
  obtain ⟨o0, o1, o2, o3, o4, o5, o6, o7, o8⟩ := ho
  obtain ⟨t0', t1', t2', t3', t4', t5', t6', t7', t8'⟩ := ht
  obtain ⟨xs, k, hk, hxy, _, hxl, hf⟩ := DataW.trod_struct he h
  match xs, hxl, cs, hl with
  | [y0, y1, y2, y3, y4, y5, y6, y7, y8], _, [v0, v1, v2, v3, v4, v5, v6, v7, v8], _ =>
    have g0 := hf 0 f0 rfl
    have g1 := hf 1 f1 rfl
    have g2 := hf 2 f2 rfl
    have g3 := hf 3 f3 rfl
    have g4 := hf 4 f4 rfl
    have g5 := hf 5 f5 rfl
    have g6 := hf 6 f6 rfl
    have g7 := hf 7 f7 rfl
    have g8 := hf 8 f8 rfl
    simp [o0, o1, o2, o3, o4, o5, o6, o7, o8, t0', t1', t2', t3', t4', t5', t6', t7', t8', c0, c1] at g0 g1 g2 g3 g4 g5 g6 g7 g8
    obtain ⟨z0, e0, _, w0⟩ := DataW.trod_int u0 g0
    obtain ⟨z1, e1, _, w1⟩ := DataW.trod_int u0 g1
    obtain ⟨z2, e2, _, w2⟩ := DataW.trod_int u1 g2
    obtain ⟨z3, e3, _, w3⟩ := DataW.trod_int u1 g3
    obtain ⟨z4, e4, _, w4⟩ := DataW.trod_int u1 g4
    obtain ⟨z5, e5, _, w5⟩ := DataW.trod_int u1 g5
    obtain ⟨z6, e6, _, w6⟩ := DataW.trod_int u1 g6
    obtain ⟨z7, e7, _, w7⟩ := DataW.trod_int u1 g7
    obtain ⟨z8, e8, _, w8⟩ := DataW.trod_int u1 g8
    obtain ⟨x0, rfl⟩ := u32_of_wf w0
    obtain ⟨x1, rfl⟩ := u32_of_wf w1
    simp only [List.cons.injEq, and_true] at e0 e1 e2 e3 e4 e5 e6 e7 e8
    subst e0; subst e1; subst e2; subst e3; subst e4; subst e5; subst e6; subst e7; subst e8
    have b2 := bounds_i64 w2
    have b3 := bounds_i64 w3
    have b4 := bounds_i64 w4
    have b5 := bounds_i64 w5
    have b6 := bounds_i64 w6
    have b7 := bounds_i64 w7
    have b8 := bounds_i64 w8
    exact ⟨⟨x0, x1, z2, z3, z4, z5, z6, z7, z8⟩, rfl, ⟨b2, b3, b4, b5, b6, b7, b8⟩⟩
theorem agg_of {cs : Array Value} {l : List Value} (h : (Value.agg cs).cells.toList = l) : cs = l.toArray := by
  subst h; simp [Value.cells]
end
end Go.HL
