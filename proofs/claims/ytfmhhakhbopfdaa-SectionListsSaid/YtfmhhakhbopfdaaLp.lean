/- Chapter 05: the example; the laws SectionPlaces, SectionFinds, SectionBytes, SectionReads. -/
import Derived.Test.YtfmhhakhbopfdaaWr
import Derived.Test.YtfmhhakhbopfdaaSc
set_option linter.unusedSimpArgs false
set_option linter.unusedVariables false
namespace Go.Proofs.Ytfmhhakhbopfdaa
open Go Go.HL Go.RowKit

set_option maxRecDepth 100000 in
set_option maxHeartbeats 2000000 in
theorem large_any (l : List SecV) (V : Value) (w : World) (hV : Sl (hp w) encSec l V) (hb : ∀ s ∈ l, s.data.length ≤ 140737488351232) :
    Calls Try.prog 38 #[V] w (fun e w' => e = .returned (.bool (largeP l)) ∧ Ext w w') := by
  have hV' : Sl (Bg.of w).blk encSec l V := hV
  have hlen := hV.len_le
  refine enter Try.func38 rfl Try.ntmps38 rfl ?_
  refine Tr.seq ?_
  refine Tr.region ?_
  refine Tr.q (QS.assign rfl) rfl ?_
  refine Tr.nil ?_
  refine Tr.thenN ?_
  refine Tr.seq ?_
  refine Tr.seq ?_
  refine Tr.region ?_
  refine Tr.q (QS.move rfl) rfl ?_
  first | refine Tr.q (QS.len rfl (by assumption) Try.underlying53) rfl ?_ | refine Tr.q (QS.lenRow rfl (by repeat (first | exact List.Mem.head _ | apply List.Mem.tail)) Try.underlying53) rfl ?_ | refine Tr.q (QS.lenNil rfl Try.underlying53) rfl ?_
  refine Tr.q (QS.gtr rfl rfl) rfl ?_
  refine Tr.nil ?_
  refine Tr.thenN ?_
  refine Tr.cond rfl (fun h1 => ?_) (fun h1 => ?_)
  · try simp only [bs] at h1
    refine Tr.seq ?_
    refine Tr.region ?_
    refine Tr.q (QS.assign rfl) rfl ?_
    refine Tr.nil ?_
    refine Tr.thenN ?_
    refine Tr.ret ?_
    refine Tr.thenR ?_
    refine Tr.ret1 Try.results38 rfl (fun w' hw => ?_)
    exact ⟨by rw [large_1 (by assumption)], hw.below (Bg.le.refl _)⟩
  · try simp only [bs] at h1
    refine Tr.skip ?_
    refine Tr.thenN ?_
    refine Tr.seq ?_
    refine Tr.region ?_
    refine Tr.q (QS.assign rfl) rfl ?_
    refine Tr.nil ?_
    refine Tr.thenN ?_
    refine Tr.seq ?_
    refine Tr.seq ?_
    refine Tr.region ?_
    refine Tr.q (QS.assign rfl) rfl ?_
    refine Tr.nil ?_
    refine Tr.thenN ?_
    refine Tr.block ?_
    refine Tr.loop (ι := Nat) (fun k => k ≤ l.length ∧ totalP l 0 k ≤ 200000 ∧ 0 ≤ totalP l 0 k) (fun _ => _) (fun k => []) (fun k => [(4, .int .i64 (k : Nat)), (3, .int .i64 (totalP l 0 k))]) (fun k => l.length - k) 0 ⟨Nat.zero_le _, by simp [totalP], by simp [totalP]⟩ (.cons (by first | rfl | exact lookI rfl (by omega) | exact lookI rfl (by simp) | exact lookB rfl (by simp)) (.cons (by first | rfl | exact lookI rfl (by omega) | exact lookI rfl (by simp) | exact lookB rfl (by simp)) Front.nil)) (by repeat' (first | exact Pick.nil _ | exact Del.here _ | apply Pick.cons | apply Del.there)) rfl (fun k hi m hm => ?_)
    replace hi : k ≤ l.length ∧ totalP l 0 k ≤ 200000 ∧ 0 ≤ totalP l 0 k := hi
    replace hm : m = l.length - k := hm
    change Tr _ _ [] ([(4, .int .i64 (k : Nat)), (3, .int .i64 (totalP l 0 k))] ++ _) _
    obtain ⟨hk1, hk2, hk3⟩ := hi
    have hbk : k < l.length → (l.getD k default).data.length ≤ 140737488351232 := fun q => hb _ (mem_getD q)
    have hts : totalP l 0 (k + 1) = totalP l 0 k + (l.getD k default).data.length := rfl
    refine Tr.seq ?_
    refine Tr.seq ?_
    refine Tr.region ?_
    refine Tr.q (QS.move rfl) rfl ?_
    refine Tr.q (QS.move rfl) rfl ?_
    first | refine Tr.q (QS.len rfl (by assumption) Try.underlying53) rfl ?_ | refine Tr.q (QS.lenRow rfl (by repeat (first | exact List.Mem.head _ | apply List.Mem.tail)) Try.underlying53) rfl ?_ | refine Tr.q (QS.lenNil rfl Try.underlying53) rfl ?_
    refine Tr.q (QS.lss rfl rfl) rfl ?_
    refine Tr.nil ?_
    refine Tr.thenN ?_
    refine Tr.cond rfl (fun h2 => ?_) (fun h2 => ?_)
    · try simp only [bs] at h2
      refine Tr.skip ?_
      refine Tr.thenN ?_
      refine Tr.seq ?_
      refine Tr.block ?_
      refine Tr.seq ?_
      refine Tr.region ?_
      refine Tr.q (QS.move rfl) rfl ?_
      refine Tr.q (QS.move rfl) rfl ?_
      refine Tr.q (QS.move rfl) rfl ?_
      first | refine Tr.q (QS.idxN rfl rfl (by assumption) Try.underlying53 Try.sizeOf81 (by rfl) (by omega)) rfl ?_ | refine Tr.q (QS.idxRowN rfl rfl (by repeat (first | exact List.Mem.head _ | apply List.Mem.tail)) Try.underlying53 Try.sizeOf81 (by rfl) (by omega)) rfl ?_ | refine Tr.q (QS.idx rfl rfl (by assumption) Try.underlying53 Try.sizeOf81 (by rfl) (by omega)) rfl ?_ | refine Tr.q (QS.idxRow rfl rfl (by repeat (first | exact List.Mem.head _ | apply List.Mem.tail)) Try.underlying53 Try.sizeOf81 (by rfl) (by omega)) rfl ?_
      refine Tr.q (QS.fieldAddr (off := 2) (ft := 22) rfl Try.underlying81 rfl rfl Try.sizeOf22 (by decide)) rfl ?_
      first | refine Tr.q (QS.elF rfl (by assumption) Try.isAgg22 (by omega) (by rfl)) rfl ?_ | refine Tr.q (QS.elRF rfl (by repeat (first | exact List.Mem.head _ | apply List.Mem.tail)) Try.isAgg22 (by omega) (by rfl)) rfl ?_
      first | refine Tr.q (QS.len rfl (by assumption) Try.underlying22) rfl ?_ | refine Tr.q (QS.lenRow rfl (by repeat (first | exact List.Mem.head _ | apply List.Mem.tail)) Try.underlying22) rfl ?_ | refine Tr.q (QS.lenNil rfl Try.underlying22) rfl ?_
      first | refine Tr.q (QS.addI rfl rfl (by omega)) rfl ?_ | refine Tr.q (QS.add rfl rfl) rfl ?_
      refine Tr.q (QS.assign rfl) rfl ?_
      refine Tr.nil ?_
      refine Tr.thenN ?_
      refine Tr.seq ?_
      refine Tr.region ?_
      refine Tr.q (QS.move rfl) rfl ?_
      refine Tr.q (QS.gtr rfl rfl) rfl ?_
      refine Tr.nil ?_
      refine Tr.thenN ?_
      refine Tr.cond rfl (fun h3 => ?_) (fun h3 => ?_)
      · try simp only [bs] at h3
        refine Tr.seq ?_
        refine Tr.region ?_
        refine Tr.q (QS.assign rfl) rfl ?_
        refine Tr.nil ?_
        refine Tr.thenN ?_
        refine Tr.ret ?_
        refine Tr.inR ?_
        refine Tr.thenR ?_
        refine Tr.thenR ?_
        refine Tr.inR ?_
        refine Tr.thenR ?_
        refine Tr.ret1 Try.results38 rfl (fun w' hw => ?_)
        exact ⟨by rw [large_2 (k := k) (by omega) (by omega)], hw.below (Bg.le.refl _)⟩
      · try simp only [bs] at h3
        refine Tr.skip ?_
        refine Tr.inN ?_
        refine Tr.thenN ?_
        refine Tr.region ?_
        refine Tr.q (QS.move rfl) rfl ?_
        first | refine Tr.q (QS.addI rfl rfl (by omega)) rfl ?_ | refine Tr.q (QS.add rfl rfl) rfl ?_
        refine Tr.q (QS.assign rfl) rfl ?_
        refine Tr.nil ?_
        refine Tr.thenN ?_
        apply Tr.again (k + 1)
        · exact rfl
        · exact (.cons (by first | rfl | exact lookI rfl (by omega) | exact lookI rfl (by simp) | exact lookB rfl (by simp)) (.cons (by first | rfl | exact lookI rfl (by omega) | exact lookI rfl (by simp) | exact lookB rfl (by simp)) Front.nil))
        · exact SubX.dropN 20 (by kernel_rfl) rfl
        · exact (by repeat' (first | exact Pick.nil _ | exact Del.here _ | apply Pick.cons | apply Del.there))
        · exact ⟨by omega, by omega, by omega⟩
        · exact (by (try dsimp only); omega)
    · try simp only [bs] at h2
      refine Tr.exit ?_
      refine Tr.thenE ?_
      refine Tr.thenE ?_
      refine Tr.inHit ?_
      refine Tr.thenN ?_
      refine Tr.seq ?_
      refine Tr.region ?_
      refine Tr.q (QS.assign rfl) rfl ?_
      refine Tr.nil ?_
      refine Tr.thenN ?_
      refine Tr.ret ?_
      refine Tr.ret1 Try.results38 rfl (fun w' hw => ?_)
      exact ⟨by rw [large_3 (k := k) (by omega) (by omega) (by omega)], hw.below (Bg.le.refl _)⟩

set_option maxRecDepth 100000 in
set_option maxHeartbeats 2000000 in
theorem example05_any (w : World) :
    Calls Try.prog 39 #[] w (fun e w' => e = .returned (.bool true) ∧ Ext w w') := by
  refine enter Try.func39 rfl Try.ntmps39 rfl ?_
  refine Tr.seq ?_
  refine Tr.region ?_
  refine Tr.q (QS.assign rfl) rfl ?_
  refine Tr.nil ?_
  refine Tr.thenN ?_
  refine Tr.seq ?_
  refine Tr.region ?_
  refine Tr.make (E := encU8) 0 (n := 4) rfl rfl Try.underlying22 HLF.info5 rfl rfl rfl (by decide) rfl (fun b1 => ?_)
  refine Tr.frozen (.here _) (fun F1 hF1 hD1 => ?_)
  refine Tr.q (QS.build (vs := [(0, _), (1, _), (2, _)]) rfl rfl rfl) rfl ?_
  refine Tr.lit1 (E := encSec) (exSec b1 4) rfl rfl Try.underlying53 Try.sizeOf81 Try.zeroValue81 (by rfl) (by rfl) rfl (fun V2 => ?_)
  refine Tr.frozen (.here _) (fun F2 hF2 hS => ?_)
  replace hD1 := hD1.mono hF2.blk
  refine Tr.callRowF (fun V => .tuple #[V, .int .i64 11]) rfl Try.call44 (fun w hw => by have q := read_any [exSec b1 4] V2 4098 3 w (hw.slF hS) (exB b1 4 (by omega)) (fun s hs => by simp only [List.mem_singleton] at hs; subst hs; exact hw.slF hD1) (by omega); rw [exRead] at q; exact q) rfl (fun V3 => ?_)
  refine Tr.q (QS.move rfl) rfl ?_
  refine Tr.q (QS.extract rfl rfl) rfl ?_
  refine Tr.q (QS.extract rfl rfl) rfl ?_
  refine Tr.q (QS.assign rfl) rfl ?_
  refine Tr.q (QS.assign rfl) rfl ?_
  refine Tr.nil ?_
  refine Tr.thenN ?_
  refine Tr.seq ?_
  refine Tr.region ?_
  refine Tr.make (E := encU8) 0 (n := 20) rfl rfl Try.underlying22 HLF.info5 rfl rfl rfl (by decide) rfl (fun b4 => ?_)
  refine Tr.frozen (.here _) (fun F4 hF4 hD4 => ?_)
  refine Tr.q (QS.build (vs := [(0, _), (1, _), (2, _)]) rfl rfl rfl) rfl ?_
  refine Tr.lit1 (E := encSec) (exSec b4 20) rfl rfl Try.underlying53 Try.sizeOf81 Try.zeroValue81 (by rfl) (by rfl) rfl (fun V5 => ?_)
  refine Tr.frozen (.here _) (fun F5 hF5 hS2 => ?_)
  refine Tr.q (QS.call rfl Try.call40 (fun w hw => (by have q := free_any [exSec b4 20] V5 8 4097 w (hw.slF hS2) (exB b4 20 (by omega)) (by omega); rw [exFreeAt] at q; exact q))) rfl ?_
  refine Tr.q (QS.move rfl) rfl ?_
  refine Tr.q (QS.extract rfl rfl) rfl ?_
  refine Tr.q (QS.extract rfl rfl) rfl ?_
  refine Tr.q (QS.assign rfl) rfl ?_
  refine Tr.q (QS.assign rfl) rfl ?_
  refine Tr.nil ?_
  refine Tr.thenN ?_
  refine Tr.seq ?_
  refine Tr.region ?_
  refine Tr.q (QS.move rfl) rfl ?_
  refine Tr.q (QS.eql rfl rfl) rfl ?_
  refine Tr.q (QS.move rfl) rfl ?_
  apply Tr.andP
  · exact (rfl : _ = (3, 21, 24))
  · exact rfl
  · intro hT6; have hT6' := hT6
    try simp only [bs] at hT6'
    refine Tr.gq rfl rfl hT6 (QS.move rfl) rfl ?_
    refine Tr.gq rfl rfl hT6 (QS.eql rfl rfl) rfl ?_
    refine Tr.q (QS.pickT rfl hT6 rfl) rfl ?_
    refine Tr.nil (Tr.thenN ?_)
    exact Tr.endX (Sub.cons rfl (Sub.dropN 3 (by kernel_rfl) rfl))
  · intro hF6
    refine Tr.gskip rfl rfl hF6 rfl ?_
    refine Tr.gskip rfl rfl hF6 rfl ?_
    refine Tr.q (QS.pickF rfl hF6 rfl) rfl ?_
    refine Tr.nil (Tr.thenN ?_)
    exact Tr.endX (Sub.cons rfl (Sub.dropN 3 (by kernel_rfl) rfl))
  refine Tr.q (QS.move rfl) rfl ?_
  apply Tr.andP
  · exact (rfl : _ = (3, 25, 28))
  · exact rfl
  · intro hT7; have hT7' := hT7
    try simp only [bs] at hT7'
    refine Tr.gq rfl rfl hT7 (QS.move rfl) rfl ?_
    refine Tr.gq rfl rfl hT7 (QS.eql32 (n := 4128) rfl rfl) rfl ?_
    refine Tr.q (QS.pickT rfl hT7 rfl) rfl ?_
    refine Tr.nil (Tr.thenN ?_)
    exact Tr.endX (Sub.cons rfl (Sub.dropN 3 (by kernel_rfl) rfl))
  · intro hF7
    refine Tr.gskip rfl rfl hF7 rfl ?_
    refine Tr.gskip rfl rfl hF7 rfl ?_
    refine Tr.q (QS.pickF rfl hF7 rfl) rfl ?_
    refine Tr.nil (Tr.thenN ?_)
    exact Tr.endX (Sub.cons rfl (Sub.dropN 3 (by kernel_rfl) rfl))
  refine Tr.q (QS.assign rfl) rfl ?_
  refine Tr.nil ?_
  refine Tr.thenN ?_
  refine Tr.ret ?_
  refine Tr.ret1 Try.results39 rfl (fun w' hw => ?_)
  exact ⟨rfl, hw.below (((hF1.trans hF2).trans hF4).trans hF5)⟩

set_option maxRecDepth 100000 in
set_option maxHeartbeats 2000000 in
theorem finds_true (l : List SecV) (V : Value) (a : UInt32) (w : World) (hV : Sl (hp w) encSec l V) (hD : DataIn (hp w) l) (hz : ∀ s ∈ l, s.data.length ≤ 140737488351232) :
    Calls Try.prog 10 #[V, .int .u32 a.toNat] w (fun e w' => e = .returned (.bool true) ∧ Ext w w') := by
  have hV' : Sl (Bg.of w).blk encSec l V := hV
  have hlar := @large_sec l
  refine enter Try.func10 rfl Try.ntmps10 rfl ?_
  refine Tr.seq ?_
  refine Tr.region ?_
  refine Tr.q (QS.assign rfl) rfl ?_
  refine Tr.nil ?_
  refine Tr.thenN ?_
  refine Tr.seq ?_
  refine Tr.seq ?_
  refine Tr.region ?_
  refine Tr.q (QS.move rfl) rfl ?_
  refine Tr.q (QS.call rfl Try.call38 (fun w hw => large_any l V w (hw.slF hV) hz)) rfl ?_
  refine Tr.nil ?_
  refine Tr.thenN ?_
  refine Tr.cond rfl (fun h1 => ?_) (fun h1 => ?_)
  · try simp only [bs] at h1
    refine Tr.seq ?_
    refine Tr.region ?_
    refine Tr.q (QS.call rfl Try.call39 (fun w hw => example05_any w)) rfl ?_
    refine Tr.q (QS.assign rfl) rfl ?_
    refine Tr.nil ?_
    refine Tr.thenN ?_
    refine Tr.ret ?_
    refine Tr.thenR ?_
    refine Tr.ret1 Try.results10 rfl (fun w' hw => ?_)
    exact ⟨rfl, hw.below (Bg.le.refl _)⟩
  · try simp only [bs] at h1
    refine Tr.skip ?_
    refine Tr.thenN ?_
    refine Tr.seq ?_
    obtain ⟨hB, hl40⟩ := hlar (by simp_all)
    refine Tr.region ?_
    refine Tr.q (QS.move rfl) rfl ?_
    refine Tr.callRow rfl Try.call42 (fun w hw => ranges_any l V w (hw.slF hV) hB) rfl (fun V2 => ?_)
    refine Tr.q (QS.move rfl) rfl ?_
    refine Tr.q (QS.call rfl Try.call26 (fun w hw => contains_any (normalP (l.map spaceP)) _ a w (hw.row (.head _)))) rfl ?_
    refine Tr.q (QS.move rfl) rfl ?_
    refine Tr.q (QS.move rfl) rfl ?_
    refine Tr.q (QS.call rfl Try.call43 (fun w hw => find_any l V a w (hw.slF hV) hB)) rfl ?_
    refine Tr.q (QS.geq rfl rfl) rfl ?_
    refine Tr.q (QS.bool_eql rfl rfl Try.underlying4) rfl ?_
    refine Tr.q (QS.move rfl) rfl ?_
    apply Tr.andP
    · exact (rfl : _ = (2, 17, 19))
    · exact rfl
    · intro hT3; have hT3' := hT3
      try simp only [bs] at hT3'
      refine Tr.gq rfl rfl hT3 (QS.call rfl Try.call39 (fun w hw => example05_any w)) rfl ?_
      refine Tr.q (QS.pickT rfl hT3 rfl) rfl ?_
      refine Tr.nil (Tr.thenN ?_)
      exact Tr.endX (Sub.cons rfl (Sub.dropN 2 (by kernel_rfl) rfl))
    · intro hF3
      refine Tr.gskip rfl rfl hF3 rfl ?_
      refine Tr.q (QS.pickF rfl hF3 rfl) rfl ?_
      refine Tr.nil (Tr.thenN ?_)
      exact Tr.endX (Sub.cons rfl (Sub.dropN 2 (by kernel_rfl) rfl))
    refine Tr.q (QS.assign rfl) rfl ?_
    refine Tr.nil ?_
    refine Tr.thenN ?_
    refine Tr.ret ?_
    refine Tr.ret1 Try.results10 rfl (fun w' hw => ?_)
    exact ⟨by rw [finds_ok]; simp, hw.below (Bg.le.refl _)⟩

set_option maxRecDepth 100000 in
set_option maxHeartbeats 2000000 in
theorem places_true (l : List SecV) (V : Value) (n : Int) (from_ : UInt32) (w : World) (hV : Sl (hp w) encSec l V) (hD : DataIn (hp w) l) (hz : ∀ s ∈ l, s.data.length ≤ 140737488351232) (hn : -9223372036854775808 ≤ n ∧ n ≤ 9223372036854775807) :
    Calls Try.prog 9 #[V, .int .i64 n, .int .u32 from_.toNat] w (fun e w' => e = .returned (.bool true) ∧ Ext w w') := by
  have hV' : Sl (Bg.of w).blk encSec l V := hV
  have hlar := @large_sec l
  refine enter Try.func9 rfl Try.ntmps9 rfl ?_
  refine Tr.seq ?_
  refine Tr.region ?_
  refine Tr.q (QS.assign rfl) rfl ?_
  refine Tr.nil ?_
  refine Tr.thenN ?_
  refine Tr.seq ?_
  refine Tr.seq ?_
  refine Tr.region ?_
  refine Tr.q (QS.move rfl) rfl ?_
  refine Tr.q (QS.call rfl Try.call38 (fun w hw => large_any l V w (hw.slF hV) hz)) rfl ?_
  refine Tr.nil ?_
  refine Tr.thenN ?_
  refine Tr.cond rfl (fun h1 => ?_) (fun h1 => ?_)
  · try simp only [bs] at h1
    refine Tr.seq ?_
    refine Tr.region ?_
    refine Tr.q (QS.call rfl Try.call39 (fun w hw => example05_any w)) rfl ?_
    refine Tr.q (QS.assign rfl) rfl ?_
    refine Tr.nil ?_
    refine Tr.thenN ?_
    refine Tr.ret ?_
    refine Tr.thenR ?_
    refine Tr.ret1 Try.results9 rfl (fun w' hw => ?_)
    exact ⟨rfl, hw.below (Bg.le.refl _)⟩
  · try simp only [bs] at h1
    refine Tr.skip ?_
    refine Tr.thenN ?_
    refine Tr.seq ?_
    obtain ⟨hB, hl40⟩ := hlar (by simp_all)
    refine Tr.region ?_
    refine Tr.q (QS.move rfl) rfl ?_
    refine Tr.q (QS.move rfl) rfl ?_
    refine Tr.q (QS.move rfl) rfl ?_
    refine Tr.q (QS.call rfl Try.call40 (fun w hw => free_any l V n from_ w (hw.slF hV) hB hn.2)) rfl ?_
    refine Tr.q (QS.move rfl) rfl ?_
    refine Tr.q (QS.extract rfl rfl) rfl ?_
    refine Tr.q (QS.extract rfl rfl) rfl ?_
    refine Tr.q (QS.assign rfl) rfl ?_
    refine Tr.q (QS.assign rfl) rfl ?_
    refine Tr.nil ?_
    refine Tr.thenN ?_
    refine Tr.seq ?_
    refine Tr.region ?_
    refine Tr.q (QS.move rfl) rfl ?_
    refine Tr.q (QS.move rfl) rfl ?_
    refine Tr.q (QS.move rfl) rfl ?_
    refine Tr.q (QS.call rfl Try.call41 (fun w hw => refFree_any l V n from_ w (hw.slF hV) hB)) rfl ?_
    refine Tr.q (QS.move rfl) rfl ?_
    refine Tr.q (QS.extract rfl rfl) rfl ?_
    refine Tr.q (QS.extract rfl rfl) rfl ?_
    refine Tr.q (QS.assign rfl) rfl ?_
    refine Tr.q (QS.assign rfl) rfl ?_
    refine Tr.nil ?_
    refine Tr.thenN ?_
    refine Tr.seq ?_
    refine Tr.region ?_
    refine Tr.q (QS.move rfl) rfl ?_
    refine Tr.q (QS.move rfl) rfl ?_
    refine Tr.q (QS.eql32 rfl rfl) rfl ?_
    refine Tr.q (QS.move rfl) rfl ?_
    apply Tr.andP
    · exact (rfl : _ = (4, 31, 35))
    · exact rfl
    · intro hT2; have hT2' := hT2
      try simp only [bs] at hT2'
      refine Tr.gq rfl rfl hT2 (QS.move rfl) rfl ?_
      refine Tr.gq rfl rfl hT2 (QS.move rfl) rfl ?_
      refine Tr.gq rfl rfl hT2 (QS.eql rfl rfl) rfl ?_
      refine Tr.q (QS.pickT rfl hT2 rfl) rfl ?_
      refine Tr.nil (Tr.thenN ?_)
      exact Tr.endX (Sub.cons rfl (Sub.dropN 4 (by kernel_rfl) rfl))
    · intro hF2
      refine Tr.gskip rfl rfl hF2 rfl ?_
      refine Tr.gskip rfl rfl hF2 rfl ?_
      refine Tr.gskip rfl rfl hF2 rfl ?_
      refine Tr.q (QS.pickF rfl hF2 rfl) rfl ?_
      refine Tr.nil (Tr.thenN ?_)
      exact Tr.endX (Sub.cons rfl (Sub.dropN 4 (by kernel_rfl) rfl))
    refine Tr.q (QS.move rfl) rfl ?_
    apply Tr.andP
    · exact (rfl : _ = (2, 36, 38))
    · exact rfl
    · intro hT3; have hT3' := hT3
      try simp only [bs] at hT3'
      refine Tr.gq rfl rfl hT3 (QS.call rfl Try.call39 (fun w hw => example05_any w)) rfl ?_
      refine Tr.q (QS.pickT rfl hT3 rfl) rfl ?_
      refine Tr.nil (Tr.thenN ?_)
      exact Tr.endX (Sub.cons rfl (Sub.dropN 2 (by kernel_rfl) rfl))
    · intro hF3
      refine Tr.gskip rfl rfl hF3 rfl ?_
      refine Tr.q (QS.pickF rfl hF3 rfl) rfl ?_
      refine Tr.nil (Tr.thenN ?_)
      exact Tr.endX (Sub.cons rfl (Sub.dropN 2 (by kernel_rfl) rfl))
    refine Tr.q (QS.assign rfl) rfl ?_
    refine Tr.nil ?_
    refine Tr.thenN ?_
    refine Tr.ret ?_
    refine Tr.ret1 Try.results9 rfl (fun w' hw => ?_)
    exact ⟨by simp, hw.below (Bg.le.refl _)⟩

set_option maxRecDepth 100000 in
set_option maxHeartbeats 2000000 in
theorem bytes_true (l : List SecV) (V : Value) (a : UInt32) (n : Int) (b : List UInt8) (W : Value) (w : World) (hV : Sl (hp w) encSec l V) (hD : DataIn (hp w) l) (hz : ∀ s ∈ l, s.data.length ≤ 140737488351232) (hn : -9223372036854775808 ≤ n ∧ n ≤ 9223372036854775807) (hW : Sl (hp w) encU8 b W) :
    Calls Try.prog 11 #[V, .int .u32 a.toNat, .int .i64 n, W] w (fun e w' => e = .returned (.bool true) ∧ Ext w w') := by
  have hV' : Sl (Bg.of w).blk encSec l V := hV
  have hlar := @large_sec l
  have hW' : Sl (Bg.of w).blk encU8 b W := hW
  refine enter Try.func11 rfl Try.ntmps11 rfl ?_
  refine Tr.seq ?_
  refine Tr.region ?_
  refine Tr.q (QS.assign rfl) rfl ?_
  refine Tr.nil ?_
  refine Tr.thenN ?_
  refine Tr.seq ?_
  refine Tr.seq ?_
  refine Tr.region ?_
  refine Tr.q (QS.move rfl) rfl ?_
  refine Tr.q (QS.call rfl Try.call38 (fun w hw => large_any l V w (hw.slF hV) hz)) rfl ?_
  refine Tr.q (QS.move rfl) rfl ?_
  apply Tr.orP
  · exact (rfl : _ = (4, 19, 23))
  · exact rfl
  · intro hF1; have hF1' := hF1
    try simp only [bs] at hF1'
    refine Tr.gq rfl rfl hF1 (QS.move rfl) rfl ?_
    first | refine Tr.gq rfl rfl hF1 (QS.len rfl (by assumption) Try.underlying22) rfl ?_ | refine Tr.gq rfl rfl hF1 (QS.lenRow rfl (by repeat (first | exact List.Mem.head _ | apply List.Mem.tail)) Try.underlying22) rfl ?_ | refine Tr.gq rfl rfl hF1 (QS.lenNil rfl Try.underlying22) rfl ?_
    refine Tr.gq rfl rfl hF1 (QS.gtr rfl rfl) rfl ?_
    refine Tr.q (QS.pickF rfl hF1 rfl) rfl ?_
    refine Tr.nil (Tr.thenN ?_)
    exact Tr.endX (Sub.cons rfl (Sub.dropN 4 (by kernel_rfl) rfl))
  · intro hT1
    refine Tr.gskip rfl rfl hT1 rfl ?_
    refine Tr.gskip rfl rfl hT1 rfl ?_
    refine Tr.gskip rfl rfl hT1 rfl ?_
    refine Tr.q (QS.pickT rfl hT1 rfl) rfl ?_
    refine Tr.nil (Tr.thenN ?_)
    exact Tr.endX (Sub.cons rfl (Sub.dropN 4 (by kernel_rfl) rfl))
  refine Tr.nil ?_
  refine Tr.thenN ?_
  refine Tr.cond rfl (fun h2 => ?_) (fun h2 => ?_)
  · try simp only [bs] at h2
    refine Tr.seq ?_
    refine Tr.region ?_
    refine Tr.q (QS.call rfl Try.call39 (fun w hw => example05_any w)) rfl ?_
    refine Tr.q (QS.assign rfl) rfl ?_
    refine Tr.nil ?_
    refine Tr.thenN ?_
    refine Tr.ret ?_
    refine Tr.thenR ?_
    refine Tr.ret1 Try.results11 rfl (fun w' hw => ?_)
    exact ⟨rfl, hw.below (Bg.le.refl _)⟩
  · try simp only [bs] at h2
    refine Tr.skip ?_
    refine Tr.thenN ?_
    refine Tr.seq ?_
    obtain ⟨hB, hl40⟩ := hlar (by simp_all)
    have hbl : b.length ≤ 10000 := by simp_all <;> omega
    refine Tr.region ?_
    refine Tr.q (QS.move rfl) rfl ?_
    refine Tr.q (QS.move rfl) rfl ?_
    refine Tr.q (QS.move rfl) rfl ?_
    refine Tr.callRowF (fun V => .tuple #[V, .int .i64 (readP l a n).2]) rfl Try.call44 (fun w hw => read_any l V a n w (hw.slF hV) hB (hD.mono hw.bg) hn.2) rfl (fun V3 => ?_)
    refine Tr.q (QS.move rfl) rfl ?_
    refine Tr.q (QS.extract rfl rfl) rfl ?_
    refine Tr.q (QS.extract rfl rfl) rfl ?_
    refine Tr.q (QS.assign rfl) rfl ?_
    refine Tr.q (QS.assign rfl) rfl ?_
    refine Tr.nil ?_
    refine Tr.thenN ?_
    refine Tr.seq ?_
    refine Tr.region ?_
    refine Tr.q (QS.move rfl) rfl ?_
    refine Tr.q (QS.move rfl) rfl ?_
    refine Tr.q (QS.move rfl) rfl ?_
    refine Tr.callRowF (fun V => .tuple #[V, .int .i64 (readP l a n).2]) rfl Try.call45 (fun w hw => refRead_any l V a n w (hw.slF hV) hB (hD.mono hw.bg) hn.2) rfl (fun V4 => ?_)
    refine Tr.q (QS.move rfl) rfl ?_
    refine Tr.q (QS.extract rfl rfl) rfl ?_
    refine Tr.q (QS.extract rfl rfl) rfl ?_
    refine Tr.q (QS.assign rfl) rfl ?_
    refine Tr.q (QS.assign rfl) rfl ?_
    refine Tr.nil ?_
    refine Tr.thenN ?_
    refine Tr.seq ?_
    refine Tr.region ?_
    refine Tr.q (QS.move rfl) rfl ?_
    refine Tr.q (QS.move rfl) rfl ?_
    refine Tr.q (QS.move rfl) rfl ?_
    refine Tr.callBg (fun V : Value => .tuple #[V, .int .i64 (writeP l a b).2]) (R := fun h V => SecsAt h (writeP l a b).1 V) (fun h h' i hh r => r.mono hh) rfl Try.call46 (fun w hw => write_any l V a b W w (hw.slF hV) hB (hD.mono hw.bg) (hw.slF hW) (by omega)) rfl (fun V71 F71 hF71 hR71 => ?_)
    refine Tr.q (QS.move rfl) rfl ?_
    refine Tr.q (QS.extract rfl rfl) rfl ?_
    refine Tr.q (QS.extract rfl rfl) rfl ?_
    refine Tr.q (QS.assign rfl) rfl ?_
    refine Tr.q (QS.assign rfl) rfl ?_
    refine Tr.nil ?_
    refine Tr.thenN ?_
    refine Tr.seq ?_
    have hV1 := hV'.mono hF71.blk
    have hD1 : DataIn F71.blk l := hD.mono hF71.blk
    have hW1 := hW'.mono hF71.blk
    refine Tr.region ?_
    refine Tr.q (QS.move rfl) rfl ?_
    refine Tr.q (QS.move rfl) rfl ?_
    refine Tr.q (QS.move rfl) rfl ?_
    refine Tr.callBg (fun V : Value => .tuple #[V, .int .i64 (writeP l a b).2]) (R := fun h V => SecsAt h (writeP l a b).1 V) (fun h h' i hh r => r.mono hh) rfl Try.call47 (fun w hw => refWrite_any l V a b W w (hw.slF hV1) hB (hD1.mono hw.bg) (hw.slF hW1) (by omega)) rfl (fun V72 F72 hF72 hR72 => ?_)
    refine Tr.q (QS.move rfl) rfl ?_
    refine Tr.q (QS.extract rfl rfl) rfl ?_
    refine Tr.q (QS.extract rfl rfl) rfl ?_
    refine Tr.q (QS.assign rfl) rfl ?_
    refine Tr.q (QS.assign rfl) rfl ?_
    refine Tr.nil ?_
    refine Tr.thenN ?_
    refine Tr.seq ?_
    obtain ⟨l1, s11, s12, s13⟩ := hR71.mono hF72.blk
    obtain ⟨l2, s21, s22, s23⟩ := hR72
    refine Tr.region ?_
    refine Tr.q (QS.move rfl) rfl ?_
    refine Tr.q (QS.move rfl) rfl ?_
    refine Tr.q (QS.call rfl Try.call48 (fun w hw => sameBytes_any (readP l a n).1 (readP l a n).1 _ _ w (hw.row (.tail _ (.head _))) (hw.row (.head _)))) rfl ?_
    refine Tr.q (QS.move rfl) rfl ?_
    apply Tr.andP
    · exact (rfl : _ = (4, 56, 60))
    · exact rfl
    · intro hT5; have hT5' := hT5
      try simp only [bs] at hT5'
      refine Tr.gq rfl rfl hT5 (QS.move rfl) rfl ?_
      refine Tr.gq rfl rfl hT5 (QS.move rfl) rfl ?_
      refine Tr.gq rfl rfl hT5 (QS.eql rfl rfl) rfl ?_
      refine Tr.q (QS.pickT rfl hT5 rfl) rfl ?_
      refine Tr.nil (Tr.thenN ?_)
      exact Tr.endX (Sub.cons rfl (Sub.dropN 4 (by kernel_rfl) rfl))
    · intro hF5
      refine Tr.gskip rfl rfl hF5 rfl ?_
      refine Tr.gskip rfl rfl hF5 rfl ?_
      refine Tr.gskip rfl rfl hF5 rfl ?_
      refine Tr.q (QS.pickF rfl hF5 rfl) rfl ?_
      refine Tr.nil (Tr.thenN ?_)
      exact Tr.endX (Sub.cons rfl (Sub.dropN 4 (by kernel_rfl) rfl))
    refine Tr.q (QS.move rfl) rfl ?_
    apply Tr.andP
    · exact (rfl : _ = (4, 61, 65))
    · exact rfl
    · intro hT6; have hT6' := hT6
      try simp only [bs] at hT6'
      refine Tr.gq rfl rfl hT6 (QS.move rfl) rfl ?_
      refine Tr.gq rfl rfl hT6 (QS.move rfl) rfl ?_
      refine Tr.gq rfl rfl hT6 (QS.call rfl Try.call49 (fun w hw => sameSections_any l1 l2 _ _ w (hw.slF s11) (hw.slF s21) (s12.mono hw.bg) (s22.mono hw.bg))) rfl ?_
      refine Tr.q (QS.pickT rfl hT6 rfl) rfl ?_
      refine Tr.nil (Tr.thenN ?_)
      exact Tr.endX (Sub.cons rfl (Sub.dropN 4 (by kernel_rfl) rfl))
    · intro hF6
      refine Tr.gskip rfl rfl hF6 rfl ?_
      refine Tr.gskip rfl rfl hF6 rfl ?_
      refine Tr.gskip rfl rfl hF6 rfl ?_
      refine Tr.q (QS.pickF rfl hF6 rfl) rfl ?_
      refine Tr.nil (Tr.thenN ?_)
      exact Tr.endX (Sub.cons rfl (Sub.dropN 4 (by kernel_rfl) rfl))
    refine Tr.q (QS.move rfl) rfl ?_
    apply Tr.andP
    · exact (rfl : _ = (4, 66, 70))
    · exact rfl
    · intro hT7; have hT7' := hT7
      try simp only [bs] at hT7'
      refine Tr.gq rfl rfl hT7 (QS.move rfl) rfl ?_
      refine Tr.gq rfl rfl hT7 (QS.move rfl) rfl ?_
      refine Tr.gq rfl rfl hT7 (QS.eql rfl rfl) rfl ?_
      refine Tr.q (QS.pickT rfl hT7 rfl) rfl ?_
      refine Tr.nil (Tr.thenN ?_)
      exact Tr.endX (Sub.cons rfl (Sub.dropN 4 (by kernel_rfl) rfl))
    · intro hF7
      refine Tr.gskip rfl rfl hF7 rfl ?_
      refine Tr.gskip rfl rfl hF7 rfl ?_
      refine Tr.gskip rfl rfl hF7 rfl ?_
      refine Tr.q (QS.pickF rfl hF7 rfl) rfl ?_
      refine Tr.nil (Tr.thenN ?_)
      exact Tr.endX (Sub.cons rfl (Sub.dropN 4 (by kernel_rfl) rfl))
    refine Tr.q (QS.move rfl) rfl ?_
    apply Tr.andP
    · exact (rfl : _ = (2, 71, 73))
    · exact rfl
    · intro hT8; have hT8' := hT8
      try simp only [bs] at hT8'
      refine Tr.gq rfl rfl hT8 (QS.call rfl Try.call39 (fun w hw => example05_any w)) rfl ?_
      refine Tr.q (QS.pickT rfl hT8 rfl) rfl ?_
      refine Tr.nil (Tr.thenN ?_)
      exact Tr.endX (Sub.cons rfl (Sub.dropN 2 (by kernel_rfl) rfl))
    · intro hF8
      refine Tr.gskip rfl rfl hF8 rfl ?_
      refine Tr.q (QS.pickF rfl hF8 rfl) rfl ?_
      refine Tr.nil (Tr.thenN ?_)
      exact Tr.endX (Sub.cons rfl (Sub.dropN 2 (by kernel_rfl) rfl))
    refine Tr.q (QS.assign rfl) rfl ?_
    refine Tr.nil ?_
    refine Tr.thenN ?_
    refine Tr.ret ?_
    refine Tr.ret1 Try.results11 rfl (fun w' hw => ?_)
    exact ⟨by rw [s13, s23]; simp, hw.below (hF71.trans hF72)⟩

set_option maxRecDepth 100000 in
set_option maxHeartbeats 2000000 in
theorem checks_true (l : List SecV) (V : Value) (a : UInt32) (w : World) (hV : Sl (hp w) encSec l V) (hD : DataIn (hp w) l) (hz : ∀ s ∈ l, s.data.length ≤ 140737488351232) (hN : ∀ s ∈ l, s.name.size ≤ 140737488351232) :
    Calls Try.prog 13 #[V, .int .u32 a.toNat] w (fun e w' => e = .returned (.bool true) ∧ Ext w w') := by
  have hV' : Sl (Bg.of w).blk encSec l V := hV
  have hlar := @large_sec l
  refine enter Try.func13 rfl Try.ntmps13 rfl ?_
  refine Tr.seq ?_
  refine Tr.region ?_
  refine Tr.q (QS.assign rfl) rfl ?_
  refine Tr.nil ?_
  refine Tr.thenN ?_
  refine Tr.seq ?_
  refine Tr.seq ?_
  refine Tr.region ?_
  refine Tr.q (QS.move rfl) rfl ?_
  refine Tr.q (QS.call rfl Try.call38 (fun w hw => large_any l V w (hw.slF hV) hz)) rfl ?_
  refine Tr.nil ?_
  refine Tr.thenN ?_
  refine Tr.cond rfl (fun h1 => ?_) (fun h1 => ?_)
  · try simp only [bs] at h1
    refine Tr.seq ?_
    refine Tr.region ?_
    refine Tr.q (QS.call rfl Try.call39 (fun w hw => example05_any w)) rfl ?_
    refine Tr.q (QS.assign rfl) rfl ?_
    refine Tr.nil ?_
    refine Tr.thenN ?_
    refine Tr.ret ?_
    refine Tr.thenR ?_
    refine Tr.ret1 Try.results13 rfl (fun w' hw => ?_)
    exact ⟨rfl, hw.below (Bg.le.refl _)⟩
  · try simp only [bs] at h1
    refine Tr.skip ?_
    refine Tr.thenN ?_
    refine Tr.seq ?_
    obtain ⟨hB, hl40⟩ := hlar (by simp_all)
    refine Tr.region ?_
    refine Tr.q (QS.move rfl) rfl ?_
    refine Tr.q (QS.call rfl Try.call50 (fun w hw => check_sec l V w (hw.slF hV) hB (fun s hs => by have := hN s hs; omega))) rfl ?_
    refine Tr.q (QS.move rfl) rfl ?_
    refine Tr.q (QS.call rfl Try.call51 (fun w hw => refCheck_any l V w (hw.slF hV) hB (fun s hs => by have := hN s hs; omega))) rfl ?_
    refine Tr.q (QS.eql rfl rfl) rfl ?_
    refine Tr.q (QS.move rfl) rfl ?_
    apply Tr.andP
    · exact (rfl : _ = (8, 13, 21))
    · exact rfl
    · intro hT2; have hT2' := hT2
      try simp only [bs] at hT2'
      refine Tr.gq rfl rfl hT2 (QS.move rfl) rfl ?_
      refine Tr.gq rfl rfl hT2 (QS.move rfl) rfl ?_
      refine Tr.gq rfl rfl hT2 (QS.call rfl Try.call43 (fun w hw => find_any l V a w (hw.slF hV) hB)) rfl ?_
      refine Tr.gq rfl rfl hT2 (QS.move rfl) rfl ?_
      refine Tr.gq rfl rfl hT2 (QS.move rfl) rfl ?_
      refine Tr.gq rfl rfl hT2 (QS.call rfl Try.call52 (fun w hw => refFind_any l V a w (hw.slF hV) hB)) rfl ?_
      refine Tr.gq rfl rfl hT2 (QS.eql rfl rfl) rfl ?_
      refine Tr.q (QS.pickT rfl hT2 rfl) rfl ?_
      refine Tr.nil (Tr.thenN ?_)
      exact Tr.endX (Sub.cons rfl (Sub.dropN 8 (by kernel_rfl) rfl))
    · intro hF2
      refine Tr.gskip rfl rfl hF2 rfl ?_
      refine Tr.gskip rfl rfl hF2 rfl ?_
      refine Tr.gskip rfl rfl hF2 rfl ?_
      refine Tr.gskip rfl rfl hF2 rfl ?_
      refine Tr.gskip rfl rfl hF2 rfl ?_
      refine Tr.gskip rfl rfl hF2 rfl ?_
      refine Tr.gskip rfl rfl hF2 rfl ?_
      refine Tr.q (QS.pickF rfl hF2 rfl) rfl ?_
      refine Tr.nil (Tr.thenN ?_)
      exact Tr.endX (Sub.cons rfl (Sub.dropN 8 (by kernel_rfl) rfl))
    refine Tr.q (QS.move rfl) rfl ?_
    apply Tr.andP
    · exact (rfl : _ = (2, 22, 24))
    · exact rfl
    · intro hT3; have hT3' := hT3
      try simp only [bs] at hT3'
      refine Tr.gq rfl rfl hT3 (QS.call rfl Try.call39 (fun w hw => example05_any w)) rfl ?_
      refine Tr.q (QS.pickT rfl hT3 rfl) rfl ?_
      refine Tr.nil (Tr.thenN ?_)
      exact Tr.endX (Sub.cons rfl (Sub.dropN 2 (by kernel_rfl) rfl))
    · intro hF3
      refine Tr.gskip rfl rfl hF3 rfl ?_
      refine Tr.q (QS.pickF rfl hF3 rfl) rfl ?_
      refine Tr.nil (Tr.thenN ?_)
      exact Tr.endX (Sub.cons rfl (Sub.dropN 2 (by kernel_rfl) rfl))
    refine Tr.q (QS.assign rfl) rfl ?_
    refine Tr.nil ?_
    refine Tr.thenN ?_
    refine Tr.ret ?_
    refine Tr.ret1 Try.results13 rfl (fun w' hw => ?_)
    exact ⟨by simp, hw.below (Bg.le.refl _)⟩

end Go.Proofs.Ytfmhhakhbopfdaa
