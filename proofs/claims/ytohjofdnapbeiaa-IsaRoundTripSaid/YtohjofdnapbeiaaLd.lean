/- The laws IsaPrefix, IsaRelative, IsaCanonical, IsaRoundTrip. -/
import Derived.Test.YtohjofdnapbeiaaLa
import Derived.Test.YtohjofdnapbeiaaIp
import Derived.Test.YtohjofdnapbeiaaHv
set_option linter.unusedSimpArgs false
set_option linter.unusedVariables false
namespace Go.Proofs.Ytohjofdnapbeiaa
open Go Go.HL Go.RowKit

set_option maxRecDepth 100000 in
set_option maxHeartbeats 2000000 in
theorem relative_true (b : List UInt8) (V : Value) (x y : UInt32) (w : World) (hV : Sl (hp w) encU8 b V) :
    Calls Try.prog 6 #[V, .int .u32 x.toNat, .int .u32 y.toNat] w (fun e w' => e = .returned (.bool true) ∧ Ext w w') := by
  have hV' : Sl (Bg.of w).blk encU8 b V := hV
  obtain ⟨p, ep⟩ : ∃ p, p = decP b x := ⟨_, rfl⟩
  have dp : ∀ w', Sl (hp w') encU8 b V → Calls Try.prog 13 #[V, .int .u32 x.toNat] w' (fun e w'' => e = .returned (.tuple #[.agg (encIns.enc p.1).toArray, .int .i64 p.2]) ∧ Ext w' w'') := fun w' h => by rw [ep]; exact decode_isa b V x w' h
  have op : InsOK p.1 := by rw [ep]; exact dec_ok
  obtain ⟨q, eq⟩ : ∃ p, p = decP b y := ⟨_, rfl⟩
  have dq : ∀ w', Sl (hp w') encU8 b V → Calls Try.prog 13 #[V, .int .u32 y.toNat] w' (fun e w'' => e = .returned (.tuple #[.agg (encIns.enc q.1).toArray, .int .i64 q.2]) ∧ Ext w' w'') := fun w' h => by rw [eq]; exact decode_isa b V y w' h
  have oq : InsOK q.1 := by rw [eq]; exact dec_ok
  have hrel := dec_rel b x y
  rw [← ep, ← eq] at hrel
  obtain ⟨r1, r2, r3⟩ := hrel
  clear ep eq
  refine enter Try.func6 rfl Try.ntmps6 rfl ?_
  refine Tr.seq ?_
  refine Tr.region ?_
  refine Tr.q (QS.assign rfl) rfl ?_
  refine Tr.nil ?_
  refine Tr.thenN ?_
  refine Tr.seq ?_
  refine Tr.seq ?_
  refine Tr.region ?_
  refine Tr.q (QS.move rfl) rfl ?_
  refine Tr.q (QS.call rfl Try.call11 (fun w hw => few_any b V w (hw.slF hV))) rfl ?_
  refine Tr.q (QS.not rfl) rfl ?_
  refine Tr.nil ?_
  refine Tr.thenN ?_
  refine Tr.cond rfl (fun h1 => ?_) (fun h1 => ?_)
  · try simp only [bs] at h1
    refine Tr.seq ?_
    refine Tr.region ?_
    refine Tr.q (QS.call rfl Try.call12 (fun w hw => example03_any w)) rfl ?_
    refine Tr.q (QS.assign rfl) rfl ?_
    refine Tr.nil ?_
    refine Tr.thenN ?_
    refine Tr.ret ?_
    refine Tr.thenR ?_
    refine Tr.ret1 Try.results6 rfl (fun w' hw => ?_)
    exact ⟨rfl, hw.below (Bg.le.refl _)⟩
  · try simp only [bs] at h1
    refine Tr.skip ?_
    refine Tr.thenN ?_
    refine Tr.seq ?_
    refine Tr.region ?_
    refine Tr.q (QS.move rfl) rfl ?_
    refine Tr.q (QS.move rfl) rfl ?_
    refine Tr.q (QS.call rfl Try.call13 (fun w hw => dp w (hw.slF hV))) rfl ?_
    refine Tr.q (QS.move rfl) rfl ?_
    refine Tr.q (QS.extract rfl rfl) rfl ?_
    refine Tr.q (QS.extract rfl rfl) rfl ?_
    refine Tr.alloc Try.zeroValue27 rfl rfl (fun b2 => ?_)
    refine Tr.storeW rfl rfl Try.sizeOf27 (by repeat (first | exact Put.here _ | apply Put.there)) (by rfl) (by rfl) (by first | exact List.all_eq_true.1 rfl | exact Enc.one _ _ | exact Enc.one encIns _) rfl ?_
    refine Tr.q (QS.assign rfl) rfl ?_
    refine Tr.nil ?_
    refine Tr.thenN ?_
    refine Tr.seq ?_
    refine Tr.region ?_
    refine Tr.q (QS.move rfl) rfl ?_
    refine Tr.q (QS.move rfl) rfl ?_
    refine Tr.q (QS.call rfl Try.call13 (fun w hw => dq w (hw.slF hV))) rfl ?_
    refine Tr.q (QS.move rfl) rfl ?_
    refine Tr.q (QS.extract rfl rfl) rfl ?_
    refine Tr.q (QS.extract rfl rfl) rfl ?_
    refine Tr.alloc Try.zeroValue27 rfl rfl (fun b3 => ?_)
    refine Tr.storeW rfl rfl Try.sizeOf27 (by repeat (first | exact Put.here _ | apply Put.there)) (by rfl) (by rfl) (by first | exact List.all_eq_true.1 rfl | exact Enc.one _ _ | exact Enc.one encIns _) rfl ?_
    refine Tr.q (QS.assign rfl) rfl ?_
    refine Tr.nil ?_
    refine Tr.thenN ?_
    refine Tr.seq ?_
    refine Tr.seq ?_
    refine Tr.region ?_
    refine Tr.q (QS.move rfl) rfl ?_
    refine Tr.q (QS.move rfl) rfl ?_
    refine Tr.q (QS.neq rfl rfl) rfl ?_
    refine Tr.q (QS.move rfl) rfl ?_
    apply Tr.orP
    · exact (rfl : _ = (15, 32, 47))
    · exact rfl
    · intro hF4; have hF4' := hF4
      try simp only [bs] at hF4'
      refine Tr.gq rfl rfl hF4 (QS.move rfl) rfl ?_
      refine Tr.gq rfl rfl hF4 (QS.eql rfl rfl) rfl ?_
      refine Tr.gq rfl rfl hF4 (QS.move rfl) rfl ?_
      apply Tr.andP
      · exact (rfl : _ = (11, 35, 46))
      · exact rfl
      · intro hT5; have hT5' := hT5
        try simp only [bs] at hT5'
        refine Tr.gq rfl rfl hT5 (QS.fieldAddr (off := 0) (ft := 23) rfl Try.underlying27 rfl rfl Try.sizeOf23 (by decide)) rfl ?_
        refine Tr.gq rfl rfl hT5 (QS.lV rfl Try.isAgg23) rfl ?_
        refine Tr.gq rfl rfl hT5 (QS.move rfl) rfl ?_
        refine Tr.gq rfl rfl hT5 (QS.neq32 rfl rfl) rfl ?_
        refine Tr.gq rfl rfl hT5 (QS.move rfl) rfl ?_
        apply Tr.orP
        · exact (rfl : _ = (5, 40, 45))
        · exact rfl
        · intro hF6; have hF6' := hF6
          try simp only [bs] at hF6'
          refine Tr.gq rfl rfl hF6 (QS.fieldAddr (off := 0) (ft := 23) rfl Try.underlying27 rfl rfl Try.sizeOf23 (by decide)) rfl ?_
          refine Tr.gq rfl rfl hF6 (QS.lV rfl Try.isAgg23) rfl ?_
          refine Tr.gq rfl rfl hF6 (QS.move rfl) rfl ?_
          refine Tr.gq rfl rfl hF6 (QS.neq32 rfl rfl) rfl ?_
          refine Tr.gq rfl rfl hT5 (QS.pickF rfl hF6 rfl) rfl ?_
          refine Tr.nil (Tr.thenN ?_)
          exact Tr.endX (Sub.cons rfl (Sub.dropN 5 (by kernel_rfl) rfl))
        · intro hT6
          refine Tr.gskip rfl rfl hT6 rfl ?_
          refine Tr.gskip rfl rfl hT6 rfl ?_
          refine Tr.gskip rfl rfl hT6 rfl ?_
          refine Tr.gskip rfl rfl hT6 rfl ?_
          refine Tr.gq rfl rfl hT5 (QS.pickT rfl hT6 rfl) rfl ?_
          refine Tr.nil (Tr.thenN ?_)
          exact Tr.endX (Sub.cons rfl (Sub.dropN 5 (by kernel_rfl) rfl))
        refine Tr.gq rfl rfl hF4 (QS.pickT rfl hT5 rfl) rfl ?_
        refine Tr.nil (Tr.thenN ?_)
        exact Tr.endX (Sub.cons rfl (Sub.dropN 7 (by kernel_rfl) rfl))
      · intro hF5
        refine Tr.gskip rfl rfl hF5 rfl ?_
        refine Tr.gskip rfl rfl hF5 rfl ?_
        refine Tr.gskip rfl rfl hF5 rfl ?_
        refine Tr.gskip rfl rfl hF5 rfl ?_
        refine Tr.gskip rfl rfl hF5 rfl ?_
        refine Tr.gskipU rfl rfl rfl ?_
        refine Tr.gskipU rfl rfl rfl ?_
        refine Tr.gskipU rfl rfl rfl ?_
        refine Tr.gskipU rfl rfl rfl ?_
        refine Tr.gskip rfl rfl hF5 rfl ?_
        refine Tr.gq rfl rfl hF4 (QS.pickF rfl hF5 rfl) rfl ?_
        refine Tr.nil (Tr.thenN ?_)
        exact Tr.endX (Sub.cons rfl (Sub.dropN 11 (by kernel_rfl) rfl))
      refine Tr.q (QS.pickF rfl hF4 rfl) rfl ?_
      refine Tr.nil (Tr.thenN ?_)
      exact Tr.endX (Sub.cons rfl (Sub.dropN 5 (by kernel_rfl) rfl))
    · intro hT4
      refine Tr.gskip rfl rfl hT4 rfl ?_
      refine Tr.gskip rfl rfl hT4 rfl ?_
      refine Tr.gskip rfl rfl hT4 rfl ?_
      refine Tr.gskipU rfl rfl rfl ?_
      refine Tr.gskipU rfl rfl rfl ?_
      refine Tr.gskipU rfl rfl rfl ?_
      refine Tr.gskipU rfl rfl rfl ?_
      refine Tr.gskipU rfl rfl rfl ?_
      refine Tr.gskipU rfl rfl rfl ?_
      refine Tr.gskipU rfl rfl rfl ?_
      refine Tr.gskipU rfl rfl rfl ?_
      refine Tr.gskipU rfl rfl rfl ?_
      refine Tr.gskipU rfl rfl rfl ?_
      refine Tr.gskip rfl rfl hT4 rfl ?_
      refine Tr.q (QS.pickT rfl hT4 rfl) rfl ?_
      refine Tr.nil (Tr.thenN ?_)
      exact Tr.endX (Sub.cons rfl (Sub.dropN 15 (by kernel_rfl) rfl))
    refine Tr.nil ?_
    refine Tr.thenN ?_
    refine Tr.cond rfl (fun h7 => ?_) (fun h7 => ?_)
    · try simp only [bs] at h7
      refine Tr.seq ?_
      refine Tr.region ?_
      refine Tr.q (QS.assign rfl) rfl ?_
      refine Tr.nil ?_
      refine Tr.thenN ?_
      refine Tr.ret ?_
      refine Tr.thenR ?_
      refine Tr.ret1 Try.results6 rfl (fun w' hw => ?_)
      exfalso; simp_all
    · try simp only [bs] at h7
      refine Tr.skip ?_
      refine Tr.thenN ?_
      refine Tr.seq ?_
      refine Tr.region ?_
      refine Tr.q (QS.lW rfl Try.isAgg27 Try.sizeOf27) rfl ?_
      refine Tr.q (QS.call rfl Try.call21 (fun w hw => target_isa p.1 w)) rfl ?_
      refine Tr.q (QS.move rfl) rfl ?_
      refine Tr.q (QS.extract rfl rfl) rfl ?_
      refine Tr.q (QS.extract rfl rfl) rfl ?_
      refine Tr.q (QS.assign rfl) rfl ?_
      refine Tr.q (QS.assign rfl) rfl ?_
      refine Tr.nil ?_
      refine Tr.thenN ?_
      refine Tr.seqJ (ι := UInt32) (fun m => m = (if p.2 = 0 ∧ (targetP p.1).2 = true then p.1.imm - x + y else p.1.imm)) (fun _ => Bg.of w) (fun m => [cellE b3 (encIns.enc q.1) 27, cellE b2 (encIns.enc { p.1 with imm := m }) 27]) (fun m => []) ?_ (fun m hi => ?_)
      · skip
        refine Tr.seq ?_
        refine Tr.region ?_
        refine Tr.q (QS.move rfl) rfl ?_
        refine Tr.q (QS.eql rfl rfl) rfl ?_
        refine Tr.q (QS.move rfl) rfl ?_
        apply Tr.andP
        · exact (rfl : _ = (2, 55, 57))
        · exact rfl
        · intro hT8; have hT8' := hT8
          try simp only [bs] at hT8'
          refine Tr.gq rfl rfl hT8 (QS.move rfl) rfl ?_
          refine Tr.q (QS.pickT rfl hT8 rfl) rfl ?_
          refine Tr.nil (Tr.thenN ?_)
          exact Tr.endX (Sub.cons rfl (Sub.dropN 2 (by kernel_rfl) rfl))
        · intro hF8
          refine Tr.gskip rfl rfl hF8 rfl ?_
          refine Tr.q (QS.pickF rfl hF8 rfl) rfl ?_
          refine Tr.nil (Tr.thenN ?_)
          exact Tr.endX (Sub.cons rfl (Sub.dropN 2 (by kernel_rfl) rfl))
        refine Tr.nil ?_
        refine Tr.thenN ?_
        refine Tr.cond rfl (fun h9 => ?_) (fun h9 => ?_)
        · try simp only [bs] at h9
          refine Tr.region ?_
          refine Tr.q (QS.fieldAddr (off := 1) (ft := 23) rfl Try.underlying27 rfl rfl Try.sizeOf23 (by decide)) rfl ?_
          refine Tr.q (QS.lV rfl Try.isAgg23) rfl ?_
          refine Tr.q (QS.move rfl) rfl ?_
          refine Tr.q (QS.sub32 rfl rfl) rfl ?_
          refine Tr.q (QS.move rfl) rfl ?_
          refine Tr.q (QS.add32 rfl rfl) rfl ?_
          refine Tr.q (QS.fieldAddr (off := 1) (ft := 23) rfl Try.underlying27 rfl rfl Try.sizeOf23 (by decide)) rfl ?_
          refine Tr.storeV (cs' := [_, _, _, _, _, _, _, _, _]) rfl rfl Try.sizeOf23 (by repeat (first | exact Put.here _ | apply Put.there)) rfl (by rfl) (by first | exact Nat.le_of_ble_eq_true rfl | simp) (by first | exact List.all_eq_true.1 rfl | (intro u hu; simp [Value.cells] at hu; simp_all [Value.oneCell'])) rfl ?_
          refine Tr.nil ?_
          refine Tr.thenN ?_
          apply Tr.joined (p.1.imm - x + y)
          · exact rfl
          · exact Front.nil
          · exact SubX.dropN 11 (by kernel_rfl) rfl
          · exact (by repeat' (first | exact Pick.nil _ | exact Del.here _ | apply Pick.cons | apply Del.there))
          · exact (by rw [if_pos h9])
        · try simp only [bs] at h9
          refine Tr.skip ?_
          refine Tr.thenN ?_
          apply Tr.joined p.1.imm
          · exact rfl
          · exact Front.nil
          · exact SubX.dropN 4 (by kernel_rfl) rfl
          · exact (by repeat' (first | exact Pick.nil _ | exact Del.here _ | apply Pick.cons | apply Del.there))
          · exact (by rcases h9 with z | z <;> simp [z])
      · skip
        replace hi : m = (if p.2 = 0 ∧ (targetP p.1).2 = true then p.1.imm - x + y else p.1.imm) := hi
        change Tr _ _ [cellE b3 (encIns.enc q.1) 27, cellE b2 (encIns.enc { p.1 with imm := m }) 27] ([] ++ _) _
        refine Tr.seq ?_
        refine Tr.region ?_
        refine Tr.q (QS.fieldAddr (off := 0) (ft := 23) rfl Try.underlying27 rfl rfl Try.sizeOf23 (by decide)) rfl ?_
        refine Tr.q (QS.lV rfl Try.isAgg23) rfl ?_
        refine Tr.q (QS.fieldAddr (off := 0) (ft := 23) rfl Try.underlying27 rfl rfl Try.sizeOf23 (by decide)) rfl ?_
        refine Tr.storeV (cs' := [_, _, _, _, _, _, _, _, _]) rfl rfl Try.sizeOf23 (by repeat (first | exact Put.here _ | apply Put.there)) rfl (by rfl) (by first | exact Nat.le_of_ble_eq_true rfl | simp) (by first | exact List.all_eq_true.1 rfl | (intro u hu; simp [Value.cells] at hu; simp_all [Value.oneCell'])) rfl ?_
        refine Tr.nil ?_
        refine Tr.thenN ?_
        refine Tr.seq ?_
        refine Tr.region ?_
        refine Tr.q (QS.lW rfl Try.isAgg27 Try.sizeOf27) rfl ?_
        refine Tr.q (QS.lW rfl Try.isAgg27 Try.sizeOf27) rfl ?_
        refine Tr.q (QS.eqlE (p := { p.1 with imm := m, addr := q.1.addr }) (q := q.1) rfl rfl insEqEnc Try.underlying27 (HLF.words27 _ Try.underlying27) rfl HLF.held27 HLF.eqg27) rfl ?_
        refine Tr.q (QS.move rfl) rfl ?_
        apply Tr.andP
        · exact (rfl : _ = (2, 71, 73))
        · exact rfl
        · intro hT10; have hT10' := hT10
          try simp only [bs] at hT10'
          refine Tr.gq rfl rfl hT10 (QS.call rfl Try.call12 (fun w hw => example03_any w)) rfl ?_
          refine Tr.q (QS.pickT rfl hT10 rfl) rfl ?_
          refine Tr.nil (Tr.thenN ?_)
          exact Tr.endX (Sub.cons rfl (Sub.dropN 2 (by kernel_rfl) rfl))
        · intro hF10
          refine Tr.gskip rfl rfl hF10 rfl ?_
          refine Tr.q (QS.pickF rfl hF10 rfl) rfl ?_
          refine Tr.nil (Tr.thenN ?_)
          exact Tr.endX (Sub.cons rfl (Sub.dropN 2 (by kernel_rfl) rfl))
        refine Tr.q (QS.assign rfl) rfl ?_
        refine Tr.nil ?_
        refine Tr.thenN ?_
        refine Tr.ret ?_
        refine Tr.ret1 Try.results6 rfl (fun w' hw => ?_)
        exact ⟨by rw [← r3, hi]; (split <;> simp), hw.below (Bg.le.refl _)⟩

set_option maxRecDepth 100000 in
set_option maxHeartbeats 2000000 in
theorem canonical_true (b : List UInt8) (V : Value) (addr : UInt32) (w : World) (hV : Sl (hp w) encU8 b V) :
    Calls Try.prog 8 #[V, .int .u32 addr.toNat] w (fun e w' => e = .returned (.bool true) ∧ Ext w w') := by
  have hV' : Sl (Bg.of w).blk encU8 b V := hV
  obtain ⟨p, ep⟩ : ∃ p, p = decP b addr := ⟨_, rfl⟩
  have dp : ∀ w', Sl (hp w') encU8 b V → Calls Try.prog 13 #[V, .int .u32 addr.toNat] w' (fun e w'' => e = .returned (.tuple #[.agg (encIns.enc p.1).toArray, .int .i64 p.2]) ∧ Ext w' w'') := fun w' h => by rw [ep]; exact decode_isa b V addr w' h
  have op : InsOK p.1 := by rw [ep]; exact dec_ok
  have hcan := @dec_canon b addr
  have herr := @dec_err b addr
  rw [← ep] at hcan herr
  clear ep
  cases p with | mk pi pe => ?_
  cases pi with | mk xa xi xo xf xw xc xra xrb xs => ?_
  dsimp only at *
  refine enter Try.func8 rfl Try.ntmps8 rfl ?_
  refine Tr.seq ?_
  refine Tr.region ?_
  refine Tr.q (QS.assign rfl) rfl ?_
  refine Tr.nil ?_
  refine Tr.thenN ?_
  refine Tr.seq ?_
  refine Tr.seq ?_
  refine Tr.region ?_
  refine Tr.q (QS.move rfl) rfl ?_
  refine Tr.q (QS.call rfl Try.call11 (fun w hw => few_any b V w (hw.slF hV))) rfl ?_
  refine Tr.q (QS.not rfl) rfl ?_
  refine Tr.nil ?_
  refine Tr.thenN ?_
  refine Tr.cond rfl (fun h1 => ?_) (fun h1 => ?_)
  · try simp only [bs] at h1
    refine Tr.seq ?_
    refine Tr.region ?_
    refine Tr.q (QS.call rfl Try.call12 (fun w hw => example03_any w)) rfl ?_
    refine Tr.q (QS.assign rfl) rfl ?_
    refine Tr.nil ?_
    refine Tr.thenN ?_
    refine Tr.ret ?_
    refine Tr.thenR ?_
    refine Tr.ret1 Try.results8 rfl (fun w' hw => ?_)
    exact ⟨rfl, hw.below (Bg.le.refl _)⟩
  · try simp only [bs] at h1
    refine Tr.skip ?_
    refine Tr.thenN ?_
    refine Tr.seq ?_
    refine Tr.region ?_
    refine Tr.q (QS.move rfl) rfl ?_
    refine Tr.q (QS.move rfl) rfl ?_
    refine Tr.q (QS.call rfl Try.call13 (fun w hw => dp w (hw.slF hV))) rfl ?_
    refine Tr.q (QS.move rfl) rfl ?_
    refine Tr.q (QS.extract rfl rfl) rfl ?_
    refine Tr.q (QS.extract rfl rfl) rfl ?_
    refine Tr.alloc Try.zeroValue27 rfl rfl (fun b2 => ?_)
    refine Tr.storeW rfl rfl Try.sizeOf27 (by repeat (first | exact Put.here _ | apply Put.there)) (by rfl) (by rfl) (by first | exact List.all_eq_true.1 rfl | exact Enc.one _ _ | exact Enc.one encIns _) rfl ?_
    refine Tr.q (QS.assign rfl) rfl ?_
    refine Tr.nil ?_
    refine Tr.thenN ?_
    refine Tr.seq ?_
    refine Tr.seq ?_
    refine Tr.region ?_
    refine Tr.q (QS.move rfl) rfl ?_
    refine Tr.q (QS.neq rfl rfl) rfl ?_
    refine Tr.nil ?_
    refine Tr.thenN ?_
    refine Tr.cond rfl (fun h3 => ?_) (fun h3 => ?_)
    · try simp only [bs] at h3
      refine Tr.seq ?_
      refine Tr.region ?_
      refine Tr.q (QS.move rfl) rfl ?_
      refine Tr.q (QS.eql rfl rfl) rfl ?_
      refine Tr.q (QS.move rfl) rfl ?_
      apply Tr.orP
      · exact (rfl : _ = (3, 23, 26))
      · exact rfl
      · intro hF4; have hF4' := hF4
        try simp only [bs] at hF4'
        refine Tr.gq rfl rfl hF4 (QS.move rfl) rfl ?_
        refine Tr.gq rfl rfl hF4 (QS.eql rfl rfl) rfl ?_
        refine Tr.q (QS.pickF rfl hF4 rfl) rfl ?_
        refine Tr.nil (Tr.thenN ?_)
        exact Tr.endX (Sub.cons rfl (Sub.dropN 3 (by kernel_rfl) rfl))
      · intro hT4
        refine Tr.gskip rfl rfl hT4 rfl ?_
        refine Tr.gskip rfl rfl hT4 rfl ?_
        refine Tr.q (QS.pickT rfl hT4 rfl) rfl ?_
        refine Tr.nil (Tr.thenN ?_)
        exact Tr.endX (Sub.cons rfl (Sub.dropN 3 (by kernel_rfl) rfl))
      refine Tr.q (QS.move rfl) rfl ?_
      apply Tr.andP
      · exact (rfl : _ = (4, 27, 31))
      · exact rfl
      · intro hT5; have hT5' := hT5
        try simp only [bs] at hT5'
        refine Tr.gq rfl rfl hT5 (QS.lW rfl Try.isAgg27 Try.sizeOf27) rfl ?_
        refine Tr.gq rfl rfl hT5 (QS.build (vs := []) rfl rfl (HLF.built27)) rfl ?_
        refine Tr.gq rfl rfl hT5 (QS.eqlE (p := ⟨xa, xi, xo, xf, xw, xc, xra, xrb, xs⟩) (q := zeroIns) rfl rfl insEqEnc Try.underlying27 (HLF.words27 _ Try.underlying27) rfl HLF.held27 HLF.eqg27) rfl ?_
        refine Tr.q (QS.pickT rfl hT5 rfl) rfl ?_
        refine Tr.nil (Tr.thenN ?_)
        exact Tr.endX (Sub.cons rfl (Sub.dropN 4 (by kernel_rfl) rfl))
      · intro hF5
        refine Tr.gskip rfl rfl hF5 rfl ?_
        refine Tr.gskip rfl rfl hF5 rfl ?_
        refine Tr.gskip rfl rfl hF5 rfl ?_
        refine Tr.q (QS.pickF rfl hF5 rfl) rfl ?_
        refine Tr.nil (Tr.thenN ?_)
        exact Tr.endX (Sub.cons rfl (Sub.dropN 4 (by kernel_rfl) rfl))
      refine Tr.q (QS.move rfl) rfl ?_
      apply Tr.andP
      · exact (rfl : _ = (2, 32, 34))
      · exact rfl
      · intro hT6; have hT6' := hT6
        try simp only [bs] at hT6'
        refine Tr.gq rfl rfl hT6 (QS.call rfl Try.call12 (fun w hw => example03_any w)) rfl ?_
        refine Tr.q (QS.pickT rfl hT6 rfl) rfl ?_
        refine Tr.nil (Tr.thenN ?_)
        exact Tr.endX (Sub.cons rfl (Sub.dropN 2 (by kernel_rfl) rfl))
      · intro hF6
        refine Tr.gskip rfl rfl hF6 rfl ?_
        refine Tr.q (QS.pickF rfl hF6 rfl) rfl ?_
        refine Tr.nil (Tr.thenN ?_)
        exact Tr.endX (Sub.cons rfl (Sub.dropN 2 (by kernel_rfl) rfl))
      refine Tr.q (QS.assign rfl) rfl ?_
      refine Tr.nil ?_
      refine Tr.thenN ?_
      refine Tr.ret ?_
      refine Tr.thenR ?_
      refine Tr.ret1 Try.results8 rfl (fun w' hw => ?_)
      exact ⟨by rcases herr (by assumption) with k | k <;> (obtain ⟨z1, z2⟩ := Prod.mk.inj k; rw [z1, z2]; simp), hw.below (Bg.le.refl _)⟩
    · try simp only [bs] at h3
      refine Tr.skip ?_
      refine Tr.thenN ?_
      refine Tr.seq ?_
      refine Tr.seq ?_
      have hp0 : pe = 0 := by simp_all
      obtain ⟨s, k1, k2, k3, k4, k5, k6, k7⟩ := hcan hp0
      refine Tr.regionQ HLF.mixed (by kernel_rfl) ?_
      refine TrQ.q (QS.fieldAddr (off := 8) (ft := 3) rfl Try.underlying27 rfl rfl Try.sizeOf3 (by decide)) rfl ?_
      refine TrQ.q (QS.lV rfl Try.isAgg3) rfl ?_
      refine TrQ.q (QS.lss rfl rfl) rfl ?_
      refine TrQ.q (QS.move rfl) rfl ?_
      apply TrQ.orP
      · exact (rfl : _ = (6, 38, 44))
      · exact rfl
      · intro hF7; have hF7' := hF7
        try simp only [bs] at hF7'
        refine TrQ.gq rfl rfl hF7 (QS.fieldAddr (off := 8) (ft := 3) rfl Try.underlying27 rfl rfl Try.sizeOf3 (by decide)) rfl ?_
        refine TrQ.gq rfl rfl hF7 (QS.lV rfl Try.isAgg3) rfl ?_
        refine TrQ.gq rfl rfl hF7 (QS.move rfl) rfl ?_
        first | refine TrQ.gq rfl rfl hF7 (QS.len rfl (by assumption) Try.underlying22) rfl ?_ | refine TrQ.gq rfl rfl hF7 (QS.lenRow rfl (by repeat (first | exact List.Mem.head _ | apply List.Mem.tail)) Try.underlying22) rfl ?_ | refine TrQ.gq rfl rfl hF7 (QS.lenNil rfl Try.underlying22) rfl ?_
        refine TrQ.gq rfl rfl hF7 (QS.gtr rfl rfl) rfl ?_
        refine TrQ.q (QS.pickF rfl hF7 rfl) rfl ?_
        exact TrQ.end (Sub.cons rfl (Sub.dropN 6 (by kernel_rfl) rfl))
      · intro hT7
        refine TrQ.gskip rfl rfl hT7 rfl ?_
        refine TrQ.gskip rfl rfl hT7 rfl ?_
        refine TrQ.gskip rfl rfl hT7 rfl ?_
        refine TrQ.gskip rfl rfl hT7 rfl ?_
        refine TrQ.gskip rfl rfl hT7 rfl ?_
        refine TrQ.q (QS.pickT rfl hT7 rfl) rfl ?_
        exact TrQ.end (Sub.cons rfl (Sub.dropN 6 (by kernel_rfl) rfl))
      refine TrQ.q (QS.move rfl) rfl ?_
      apply TrQ.orP
      · exact (rfl : _ = (5, 45, 50))
      · exact rfl
      · intro hF8; have hF8' := hF8
        try simp only [bs] at hF8'
        refine TrQ.gq rfl rfl hF8 (QS.fieldAddr (off := 0) (ft := 23) rfl Try.underlying27 rfl rfl Try.sizeOf23 (by decide)) rfl ?_
        refine TrQ.gq rfl rfl hF8 (QS.lV rfl Try.isAgg23) rfl ?_
        refine TrQ.gq rfl rfl hF8 (QS.move rfl) rfl ?_
        refine TrQ.gq rfl rfl hF8 (QS.neq32 rfl rfl) rfl ?_
        refine TrQ.q (QS.pickF rfl hF8 rfl) rfl ?_
        exact TrQ.end (Sub.cons rfl (Sub.dropN 5 (by kernel_rfl) rfl))
      · intro hT8
        refine TrQ.gskip rfl rfl hT8 rfl ?_
        refine TrQ.gskip rfl rfl hT8 rfl ?_
        refine TrQ.gskip rfl rfl hT8 rfl ?_
        refine TrQ.gskip rfl rfl hT8 rfl ?_
        refine TrQ.q (QS.pickT rfl hT8 rfl) rfl ?_
        exact TrQ.end (Sub.cons rfl (Sub.dropN 5 (by kernel_rfl) rfl))
      refine TrQ.q (QS.move rfl) rfl ?_
      apply TrQ.orP
      · exact (rfl : _ = (4, 51, 55))
      · exact rfl
      · intro hF9; have hF9' := hF9
        try simp only [bs] at hF9'
        refine TrQ.gq rfl rfl hF9 (QS.lW rfl Try.isAgg27 Try.sizeOf27) rfl ?_
        refine TrQ.gq rfl rfl hF9 (QS.call rfl Try.call23 (fun w hw => valid_isa ⟨xa, xi, xo, xf, xw, xc, xra, xrb, xs⟩ w op)) rfl ?_
        refine TrQ.gq rfl rfl hF9 (QS.not rfl) rfl ?_
        refine TrQ.q (QS.pickF rfl hF9 rfl) rfl ?_
        exact TrQ.end (Sub.cons rfl (Sub.dropN 4 (by kernel_rfl) rfl))
      · intro hT9
        refine TrQ.gskip rfl rfl hT9 rfl ?_
        refine TrQ.gskip rfl rfl hT9 rfl ?_
        refine TrQ.gskip rfl rfl hT9 rfl ?_
        refine TrQ.q (QS.pickT rfl hT9 rfl) rfl ?_
        exact TrQ.end (Sub.cons rfl (Sub.dropN 4 (by kernel_rfl) rfl))
      refine TrQ.q (QS.move rfl) rfl ?_
      apply TrQ.orP
      · exact (rfl : _ = (6, 56, 62))
      · exact rfl
      · intro hF10; have hF10' := hF10
        try simp only [bs] at hF10'
        refine TrQ.gq rfl rfl hF10 (QS.lW rfl Try.isAgg27 Try.sizeOf27) rfl ?_
        refine TrQ.gq rfl rfl hF10 (QS.call rfl Try.call25 (fun w hw => length_isa ⟨xa, xi, xo, xf, xw, xc, xra, xrb, xs⟩ w op)) rfl ?_
        refine TrQ.gq rfl rfl hF10 (QS.fieldAddr (off := 8) (ft := 3) rfl Try.underlying27 rfl rfl Try.sizeOf3 (by decide)) rfl ?_
        refine TrQ.gq rfl rfl hF10 (QS.lV rfl Try.isAgg3) rfl ?_
        refine TrQ.gq rfl rfl hF10 (QS.neq rfl rfl) rfl ?_
        refine TrQ.q (QS.pickF rfl hF10 rfl) rfl ?_
        exact TrQ.end (Sub.cons rfl (Sub.dropN 6 (by kernel_rfl) rfl))
      · intro hT10
        refine TrQ.gskip rfl rfl hT10 rfl ?_
        refine TrQ.gskip rfl rfl hT10 rfl ?_
        refine TrQ.gskip rfl rfl hT10 rfl ?_
        refine TrQ.gskip rfl rfl hT10 rfl ?_
        refine TrQ.gskip rfl rfl hT10 rfl ?_
        refine TrQ.q (QS.pickT rfl hT10 rfl) rfl ?_
        exact TrQ.end (Sub.cons rfl (Sub.dropN 6 (by kernel_rfl) rfl))
      refine TrQ.nil ?_
      refine Tr.thenN ?_
      refine Tr.cond rfl (fun h11 => ?_) (fun h11 => ?_)
      · try simp only [bs] at h11
        refine Tr.seq ?_
        refine Tr.region ?_
        refine Tr.q (QS.assign rfl) rfl ?_
        refine Tr.nil ?_
        refine Tr.thenN ?_
        refine Tr.ret ?_
        refine Tr.thenR ?_
        refine Tr.ret1 Try.results8 rfl (fun w' hw => ?_)
        exfalso; revert h11; rw [k5, k6, k4, k1]; simp; omega
      · try simp only [bs] at h11
        refine Tr.skip ?_
        refine Tr.thenN ?_
        refine Tr.seq ?_
        refine Tr.region ?_
        refine Tr.q (QS.lW rfl Try.isAgg27 Try.sizeOf27) rfl ?_
        refine Tr.callRowF (fun V => .tuple #[V, .int .i64 (errP ⟨xa, xi, xo, xf, xw, xc, xra, xrb, xs⟩)]) rfl Try.call15 (fun w hw => encode_rowF ⟨xa, xi, xo, xf, xw, xc, xra, xrb, xs⟩ w op) rfl (fun V12 => ?_)
        refine Tr.q (QS.move rfl) rfl ?_
        refine Tr.q (QS.extract rfl rfl) rfl ?_
        refine Tr.q (QS.extract rfl rfl) rfl ?_
        refine Tr.q (QS.assign rfl) rfl ?_
        refine Tr.q (QS.assign rfl) rfl ?_
        refine Tr.nil ?_
        refine Tr.thenN ?_
        refine Tr.seq ?_
        refine Tr.regionQ HLF.mixed (by kernel_rfl) ?_
        refine TrQ.q (QS.move rfl) rfl ?_
        refine TrQ.q (QS.eql rfl rfl) rfl ?_
        refine TrQ.q (QS.move rfl) rfl ?_
        apply TrQ.andP
        · exact (rfl : _ = (9, 70, 79))
        · exact rfl
        · intro hT13; have hT13' := hT13
          try simp only [bs] at hT13'
          refine TrQ.gq rfl rfl hT13 (QS.move rfl) rfl ?_
          first | refine TrQ.gq rfl rfl hT13 (QS.bytesStr rfl (by assumption) Try.underlying22 Try.underlying5 Try.underlying9) rfl ?_ | refine TrQ.gq rfl rfl hT13 (QS.bytesStrRow rfl (by repeat (first | exact List.Mem.head _ | apply List.Mem.tail)) Try.underlying22 Try.underlying5 Try.underlying9) rfl ?_ | refine TrQ.gq rfl rfl hT13 (QS.bytesStr rfl (Sl.resl (by assumption) (by simp only [loOf, hiOf] <;> first | omega | (simp only [NatCast.natCast, Int.ofNat_eq_natCast]; omega)) (by simp only [loOf, hiOf] <;> first | omega | (simp only [NatCast.natCast, Int.ofNat_eq_natCast]; omega))) Try.underlying22 Try.underlying5 Try.underlying9) rfl ?_
          refine TrQ.gq rfl rfl hT13 (QS.move rfl) rfl ?_
          refine TrQ.gq rfl rfl hT13 (QS.fieldAddr (off := 8) (ft := 3) rfl Try.underlying27 rfl rfl Try.sizeOf3 (by decide)) rfl ?_
          refine TrQ.gq rfl rfl hT13 (QS.lV rfl Try.isAgg3) rfl ?_
          first | refine TrQ.gq rfl rfl hT13 (QS.slice (lv := none) (hv := some (_, _)) rfl (by assumption) rfl rfl Try.underlying22 Try.sizeOf5 (by rfl) (by simp only [loOf, hiOf] <;> first | omega | (simp only [NatCast.natCast, Int.ofNat_eq_natCast]; omega)) (by simp only [loOf, hiOf] <;> first | omega | (simp only [NatCast.natCast, Int.ofNat_eq_natCast]; omega)) (by simp only [loOf, hiOf] <;> first | omega | (simp only [NatCast.natCast, Int.ofNat_eq_natCast]; omega))) rfl ?_ | refine TrQ.gq rfl rfl hT13 (QS.sliceRow (lv := none) (hv := some (_, _)) rfl (by repeat (first | exact List.Mem.head _ | apply List.Mem.tail)) rfl rfl Try.underlying22 Try.sizeOf5 (by rfl) (by simp only [loOf, hiOf] <;> first | omega | (simp only [NatCast.natCast, Int.ofNat_eq_natCast]; omega)) (by simp only [loOf, hiOf] <;> first | omega | (simp only [NatCast.natCast, Int.ofNat_eq_natCast]; omega)) (by simp only [loOf, hiOf] <;> first | omega | (simp only [NatCast.natCast, Int.ofNat_eq_natCast]; omega))) rfl ?_
          first | refine TrQ.gq rfl rfl hT13 (QS.bytesStr rfl (by assumption) Try.underlying22 Try.underlying5 Try.underlying9) rfl ?_ | refine TrQ.gq rfl rfl hT13 (QS.bytesStrRow rfl (by repeat (first | exact List.Mem.head _ | apply List.Mem.tail)) Try.underlying22 Try.underlying5 Try.underlying9) rfl ?_ | refine TrQ.gq rfl rfl hT13 (QS.bytesStr rfl (Sl.resl (by assumption) (by simp only [loOf, hiOf] <;> first | omega | (simp only [NatCast.natCast, Int.ofNat_eq_natCast]; omega)) (by simp only [loOf, hiOf] <;> first | omega | (simp only [NatCast.natCast, Int.ofNat_eq_natCast]; omega))) Try.underlying22 Try.underlying5 Try.underlying9) rfl ?_
          refine TrQ.gq rfl rfl hT13 (QS.str_eql rfl rfl) rfl ?_
          refine TrQ.q (QS.pickT rfl hT13 rfl) rfl ?_
          exact TrQ.end (Sub.cons rfl (Sub.dropN 9 (by kernel_rfl) rfl))
        · intro hF13
          refine TrQ.gskip rfl rfl hF13 rfl ?_
          refine TrQ.gskip rfl rfl hF13 rfl ?_
          refine TrQ.gskip rfl rfl hF13 rfl ?_
          refine TrQ.gskip rfl rfl hF13 rfl ?_
          refine TrQ.gskip rfl rfl hF13 rfl ?_
          refine TrQ.gskip rfl rfl hF13 rfl ?_
          refine TrQ.gskip rfl rfl hF13 rfl ?_
          refine TrQ.gskip rfl rfl hF13 rfl ?_
          refine TrQ.q (QS.pickF rfl hF13 rfl) rfl ?_
          exact TrQ.end (Sub.cons rfl (Sub.dropN 9 (by kernel_rfl) rfl))
        refine TrQ.q (QS.move rfl) rfl ?_
        apply TrQ.andP
        · exact (rfl : _ = (2, 80, 82))
        · exact rfl
        · intro hT14; have hT14' := hT14
          try simp only [bs] at hT14'
          refine TrQ.gq rfl rfl hT14 (QS.call rfl Try.call12 (fun w hw => example03_any w)) rfl ?_
          refine TrQ.q (QS.pickT rfl hT14 rfl) rfl ?_
          exact TrQ.end (Sub.cons rfl (Sub.dropN 2 (by kernel_rfl) rfl))
        · intro hF14
          refine TrQ.gskip rfl rfl hF14 rfl ?_
          refine TrQ.q (QS.pickF rfl hF14 rfl) rfl ?_
          exact TrQ.end (Sub.cons rfl (Sub.dropN 2 (by kernel_rfl) rfl))
        refine TrQ.q (QS.assign rfl) rfl ?_
        refine TrQ.nil ?_
        refine Tr.thenN ?_
        refine Tr.ret ?_
        refine Tr.ret1 Try.results8 rfl (fun w' hw => ?_)
        exact ⟨by rw [k5, k7, k1]; simp [loOf, hiOf], hw.below (Bg.le.refl _)⟩

set_option maxRecDepth 100000 in
set_option maxHeartbeats 2000000 in
theorem prefix_true (i : Ins) (w : World) (hI : InsOK i) :
    Calls Try.prog 4 #[.agg (encIns.enc i).toArray] w (fun e w' => e = .returned (.bool true) ∧ Ext w w') := by
  have hlen := enc_len_le i
  refine enter Try.func4 rfl Try.ntmps4 rfl ?_
  refine Tr.seq ?_
  refine Tr.region ?_
  refine Tr.box rfl rfl rfl (fun b1 => ?_)
  refine Tr.q (QS.assign rfl) rfl ?_
  refine Tr.nil ?_
  refine Tr.thenN ?_
  refine Tr.seq ?_
  refine Tr.region ?_
  refine Tr.q (QS.lW rfl Try.isAgg27 Try.sizeOf27) rfl ?_
  refine Tr.callRowF (fun V => .tuple #[V, .int .i64 (errP i)]) rfl Try.call15 (fun w hw => encode_rowF i w hI) rfl (fun V2 => ?_)
  refine Tr.q (QS.move rfl) rfl ?_
  refine Tr.q (QS.extract rfl rfl) rfl ?_
  refine Tr.q (QS.extract rfl rfl) rfl ?_
  refine Tr.q (QS.assign rfl) rfl ?_
  refine Tr.q (QS.assign rfl) rfl ?_
  refine Tr.nil ?_
  refine Tr.thenN ?_
  refine Tr.seq ?_
  refine Tr.seq ?_
  refine Tr.region ?_
  refine Tr.q (QS.move rfl) rfl ?_
  first | refine Tr.q (QS.len rfl (by assumption) Try.underlying22) rfl ?_ | refine Tr.q (QS.lenRow rfl (by repeat (first | exact List.Mem.head _ | apply List.Mem.tail)) Try.underlying22) rfl ?_ | refine Tr.q (QS.lenNil rfl Try.underlying22) rfl ?_
  refine Tr.q (QS.gtr rfl rfl) rfl ?_
  refine Tr.nil ?_
  refine Tr.thenN ?_
  refine Tr.cond rfl (fun h3 => ?_) (fun h3 => ?_)
  · try simp only [bs] at h3
    refine Tr.seq ?_
    refine Tr.region ?_
    refine Tr.q (QS.assign rfl) rfl ?_
    refine Tr.nil ?_
    refine Tr.thenN ?_
    refine Tr.ret ?_
    refine Tr.thenR ?_
    refine Tr.ret1 Try.results4 rfl (fun w' hw => ?_)
    exfalso; omega
  · try simp only [bs] at h3
    refine Tr.skip ?_
    refine Tr.thenN ?_
    refine Tr.seq ?_
    refine Tr.seq ?_
    refine Tr.region ?_
    refine Tr.q (QS.assign rfl) rfl ?_
    refine Tr.nil ?_
    refine Tr.thenN ?_
    refine Tr.block ?_
    refine Tr.loop (ι := Nat) (fun k => k ≤ (encodeP i).length) (fun _ => _) (fun k => [rowE V2 5 encU8 (encodeP i), cellE b1 (encIns.enc i) 27]) (fun k => [(5, .int .i64 (k : Nat))]) (fun k => (encodeP i).length - k) 0 (Nat.zero_le _) (.cons (by first | rfl | exact lookI rfl (by omega) | exact lookI rfl (by simp) | exact lookB rfl (by simp)) Front.nil) (by repeat' (first | exact Pick.nil _ | exact Del.here _ | apply Pick.cons | apply Del.there)) rfl (fun k hi m hm => ?_)
    replace hi : k ≤ (encodeP i).length := hi
    replace hm : m = (encodeP i).length - k := hm
    change Tr _ _ [rowE V2 5 encU8 (encodeP i), cellE b1 (encIns.enc i) 27] ([(5, .int .i64 (k : Nat))] ++ _) _
    refine Tr.seq ?_
    refine Tr.seq ?_
    refine Tr.region ?_
    refine Tr.q (QS.move rfl) rfl ?_
    refine Tr.q (QS.move rfl) rfl ?_
    first | refine Tr.q (QS.len rfl (by assumption) Try.underlying22) rfl ?_ | refine Tr.q (QS.lenRow rfl (by repeat (first | exact List.Mem.head _ | apply List.Mem.tail)) Try.underlying22) rfl ?_ | refine Tr.q (QS.lenNil rfl Try.underlying22) rfl ?_
    refine Tr.q (QS.lss rfl rfl) rfl ?_
    refine Tr.nil ?_
    refine Tr.thenN ?_
    refine Tr.cond rfl (fun h4 => ?_) (fun h4 => ?_)
    · try simp only [bs] at h4
      refine Tr.skip ?_
      refine Tr.thenN ?_
      refine Tr.seq ?_
      refine Tr.block ?_
      refine Tr.seq ?_
      have dk : ∀ {F L} (w : World), HpOK F L w → rowE V2 5 encU8 (encodeP i) ∈ L → Calls Try.prog 13 #[HL.resl V2 0 k encU8.k, .int .u32 i.addr.toNat] w (fun e w'' => e = .returned (.tuple #[.agg (encIns.enc zeroIns).toArray, .int .i64 5]) ∧ Ext w w'') := fun w hw hm => by
        have q := decode_isa _ _ i.addr w ((hw.row hm).resl (l := 0) (h := k) (by omega) (by omega))
        have e1 : decP (((encodeP i).take k).drop 0) i.addr = (zeroIns, 5) := dec_prefix _ (by omega)
        rw [e1] at q; exact q
      refine Tr.regionH ([rowE V2 5 encU8 (encodeP i), cellE b1 (encIns.enc i) 27]) 12 rfl HLF.mixed ?_
      refine Tr.hT 0 rfl (by kernel_rfl) (panicThen (panicIn (panicThen (panicThen (panicIn (panicThen panicBody)))))) (QS.move rfl) ?_
      refine Tr.hT 1 rfl (by kernel_rfl) (panicThen (panicIn (panicThen (panicThen (panicIn (panicThen panicBody)))))) (QS.move rfl) ?_
      first | refine Tr.hT 2 rfl (by kernel_rfl) (panicThen (panicIn (panicThen (panicThen (panicIn (panicThen panicBody)))))) (QS.slice (lv := none) (hv := some (_, _)) rfl (by assumption) rfl rfl Try.underlying22 Try.sizeOf5 (by rfl) (by simp only [loOf, hiOf] <;> first | omega | (simp only [NatCast.natCast, Int.ofNat_eq_natCast]; omega)) (by simp only [loOf, hiOf] <;> first | omega | (simp only [NatCast.natCast, Int.ofNat_eq_natCast]; omega)) (by simp only [loOf, hiOf] <;> first | omega | (simp only [NatCast.natCast, Int.ofNat_eq_natCast]; omega))) ?_ | refine Tr.hT 2 rfl (by kernel_rfl) (panicThen (panicIn (panicThen (panicThen (panicIn (panicThen panicBody)))))) (QS.sliceRow (lv := none) (hv := some (_, _)) rfl (by repeat (first | exact List.Mem.head _ | apply List.Mem.tail)) rfl rfl Try.underlying22 Try.sizeOf5 (by rfl) (by simp only [loOf, hiOf] <;> first | omega | (simp only [NatCast.natCast, Int.ofNat_eq_natCast]; omega)) (by simp only [loOf, hiOf] <;> first | omega | (simp only [NatCast.natCast, Int.ofNat_eq_natCast]; omega)) (by simp only [loOf, hiOf] <;> first | omega | (simp only [NatCast.natCast, Int.ofNat_eq_natCast]; omega))) ?_
      refine Tr.hT 3 rfl (by kernel_rfl) (panicThen (panicIn (panicThen (panicThen (panicIn (panicThen panicBody)))))) (QS.fieldAddr (off := 0) (ft := 23) rfl Try.underlying27 rfl rfl Try.sizeOf23 (by decide)) ?_
      refine Tr.hT 4 rfl (by kernel_rfl) (panicThen (panicIn (panicThen (panicThen (panicIn (panicThen panicBody)))))) (QS.lV rfl Try.isAgg23) ?_
      refine Tr.hAll [5, 9] (by kernel_rfl) (by simp) (fun iq hq => ?_)
      rcases List.mem_cons.1 hq with rfl | hq
      · skip
        refine Tr.hOp rfl ?_
        refine Tr.q (QS.call rfl Try.call13 (fun w hw => dk w hw (by repeat (first | exact List.Mem.head _ | apply List.Mem.tail)))) rfl ?_
        refine Tr.hN ?_
        refine Tr.hT 6 rfl (by kernel_rfl) (panicThen (panicIn (panicThen (panicThen (panicIn (panicThen panicBody)))))) (QS.move rfl) ?_
        refine Tr.hT 7 rfl (by kernel_rfl) (panicThen (panicIn (panicThen (panicThen (panicIn (panicThen panicBody)))))) (QS.extract rfl rfl) ?_
        refine Tr.hT 8 rfl (by kernel_rfl) (panicThen (panicIn (panicThen (panicThen (panicIn (panicThen panicBody)))))) (QS.extract rfl rfl) ?_
        refine Tr.hAll [9] (by kernel_rfl) (by simp) (fun iq hq => ?_)
        obtain rfl := List.mem_singleton.1 hq
        refine Tr.hOp rfl ?_
        refine Tr.alloc Try.zeroValue27 rfl rfl (fun b5 => ?_)
        refine Tr.hN ?_
        refine Tr.hAll [10] (by kernel_rfl) (by simp) (fun iq hq => ?_)
        obtain rfl := List.mem_singleton.1 hq
        refine Tr.hOp rfl ?_
        refine Tr.storeW rfl rfl Try.sizeOf27 (by repeat (first | exact Put.here _ | apply Put.there)) (by rfl) (by rfl) (by first | exact List.all_eq_true.1 rfl | exact Enc.one _ _ | exact Enc.one encIns _) rfl ?_
        refine Tr.hN ?_
        refine Tr.hT 11 rfl (by kernel_rfl) (panicThen (panicIn (panicThen (panicThen (panicIn (panicThen panicBody)))))) (QS.assign rfl) ?_
        refine Tr.hDone (by kernel_rfl) ?_
        refine Tr.thenN ?_
        refine Tr.seq ?_
        refine Tr.region ?_
        refine Tr.q (QS.move rfl) rfl ?_
        refine Tr.q (QS.neq rfl rfl) rfl ?_
        refine Tr.q (QS.move rfl) rfl ?_
        apply Tr.orP
        · exact (rfl : _ = (4, 33, 37))
        · exact rfl
        · intro hF6; have hF6' := hF6
          try simp only [bs] at hF6'
          refine Tr.gq rfl rfl hF6 (QS.lW rfl Try.isAgg27 Try.sizeOf27) rfl ?_
          refine Tr.gq rfl rfl hF6 (QS.build (vs := []) rfl rfl (HLF.built27)) rfl ?_
          refine Tr.gq rfl rfl hF6 (QS.neqE (p := zeroIns) (q := zeroIns) rfl rfl insEqEnc Try.underlying27 (HLF.words27 _ Try.underlying27) rfl HLF.held27 HLF.eqg27) rfl ?_
          refine Tr.q (QS.pickF rfl hF6 rfl) rfl ?_
          refine Tr.nil (Tr.thenN ?_)
          exact Tr.endX (Sub.cons rfl (Sub.dropN 4 (by kernel_rfl) rfl))
        · intro hT6
          refine Tr.gskip rfl rfl hT6 rfl ?_
          refine Tr.gskip rfl rfl hT6 rfl ?_
          refine Tr.gskip rfl rfl hT6 rfl ?_
          refine Tr.q (QS.pickT rfl hT6 rfl) rfl ?_
          refine Tr.nil (Tr.thenN ?_)
          exact Tr.endX (Sub.cons rfl (Sub.dropN 4 (by kernel_rfl) rfl))
        refine Tr.nil ?_
        refine Tr.thenN ?_
        refine Tr.cond rfl (fun h7 => ?_) (fun h7 => ?_)
        · try simp only [bs] at h7
          refine Tr.seq ?_
          refine Tr.region ?_
          refine Tr.q (QS.assign rfl) rfl ?_
          refine Tr.nil ?_
          refine Tr.thenN ?_
          refine Tr.ret ?_
          refine Tr.inR ?_
          refine Tr.thenR ?_
          refine Tr.thenR ?_
          refine Tr.inR ?_
          refine Tr.thenR ?_
          refine Tr.ret1 Try.results4 rfl (fun w' hw => ?_)
          exfalso; simp_all
        · try simp only [bs] at h7
          refine Tr.skip ?_
          refine Tr.inN ?_
          refine Tr.thenN ?_
          refine Tr.region ?_
          refine Tr.q (QS.move rfl) rfl ?_
          first | refine Tr.q (QS.addI rfl rfl (by omega)) rfl ?_ | refine Tr.q (QS.add rfl rfl) rfl ?_
          refine Tr.q (QS.assign rfl) rfl ?_
          refine Tr.nil ?_
          refine Tr.thenN ?_
          apply Tr.again (k + 1)
          · exact rfl
          · exact (.cons (by first | rfl | exact lookI rfl (by omega) | exact lookI rfl (by simp) | exact lookB rfl (by simp)) Front.nil)
          · exact SubX.dropN 23 (by kernel_rfl) rfl
          · exact (by repeat' (first | exact Pick.nil _ | exact Del.here _ | apply Pick.cons | apply Del.there))
          · exact (by show k + 1 ≤ _; omega)
          · exact (by (try dsimp only); omega)
      obtain rfl := List.mem_singleton.1 hq
      refine Tr.hOp rfl ?_
      refine Tr.alloc Try.zeroValue27 rfl rfl (fun b8 => ?_)
      refine Tr.hN ?_
      refine Tr.hAll [5] (by kernel_rfl) (by simp) (fun iq hq => ?_)
      obtain rfl := List.mem_singleton.1 hq
      refine Tr.hOp rfl ?_
      refine Tr.q (QS.call rfl Try.call13 (fun w hw => dk w hw (by repeat (first | exact List.Mem.head _ | apply List.Mem.tail)))) rfl ?_
      refine Tr.hN ?_
      refine Tr.hT 6 rfl (by kernel_rfl) (panicThen (panicIn (panicThen (panicThen (panicIn (panicThen panicBody)))))) (QS.move rfl) ?_
      refine Tr.hT 7 rfl (by kernel_rfl) (panicThen (panicIn (panicThen (panicThen (panicIn (panicThen panicBody)))))) (QS.extract rfl rfl) ?_
      refine Tr.hT 8 rfl (by kernel_rfl) (panicThen (panicIn (panicThen (panicThen (panicIn (panicThen panicBody)))))) (QS.extract rfl rfl) ?_
      refine Tr.hAll [10] (by kernel_rfl) (by simp) (fun iq hq => ?_)
      obtain rfl := List.mem_singleton.1 hq
      refine Tr.hOp rfl ?_
      refine Tr.storeW rfl rfl Try.sizeOf27 (by repeat (first | exact Put.here _ | apply Put.there)) (by rfl) (by rfl) (by first | exact List.all_eq_true.1 rfl | exact Enc.one _ _ | exact Enc.one encIns _) rfl ?_
      refine Tr.hN ?_
      refine Tr.hT 11 rfl (by kernel_rfl) (panicThen (panicIn (panicThen (panicThen (panicIn (panicThen panicBody)))))) (QS.assign rfl) ?_
      refine Tr.hDone (by kernel_rfl) ?_
      refine Tr.thenN ?_
      refine Tr.seq ?_
      refine Tr.region ?_
      refine Tr.q (QS.move rfl) rfl ?_
      refine Tr.q (QS.neq rfl rfl) rfl ?_
      refine Tr.q (QS.move rfl) rfl ?_
      apply Tr.orP
      · exact (rfl : _ = (4, 33, 37))
      · exact rfl
      · intro hF9; have hF9' := hF9
        try simp only [bs] at hF9'
        refine Tr.gq rfl rfl hF9 (QS.lW rfl Try.isAgg27 Try.sizeOf27) rfl ?_
        refine Tr.gq rfl rfl hF9 (QS.build (vs := []) rfl rfl (HLF.built27)) rfl ?_
        refine Tr.gq rfl rfl hF9 (QS.neqE (p := zeroIns) (q := zeroIns) rfl rfl insEqEnc Try.underlying27 (HLF.words27 _ Try.underlying27) rfl HLF.held27 HLF.eqg27) rfl ?_
        refine Tr.q (QS.pickF rfl hF9 rfl) rfl ?_
        refine Tr.nil (Tr.thenN ?_)
        exact Tr.endX (Sub.cons rfl (Sub.dropN 4 (by kernel_rfl) rfl))
      · intro hT9
        refine Tr.gskip rfl rfl hT9 rfl ?_
        refine Tr.gskip rfl rfl hT9 rfl ?_
        refine Tr.gskip rfl rfl hT9 rfl ?_
        refine Tr.q (QS.pickT rfl hT9 rfl) rfl ?_
        refine Tr.nil (Tr.thenN ?_)
        exact Tr.endX (Sub.cons rfl (Sub.dropN 4 (by kernel_rfl) rfl))
      refine Tr.nil ?_
      refine Tr.thenN ?_
      refine Tr.cond rfl (fun h10 => ?_) (fun h10 => ?_)
      · try simp only [bs] at h10
        refine Tr.seq ?_
        refine Tr.region ?_
        refine Tr.q (QS.assign rfl) rfl ?_
        refine Tr.nil ?_
        refine Tr.thenN ?_
        refine Tr.ret ?_
        refine Tr.inR ?_
        refine Tr.thenR ?_
        refine Tr.thenR ?_
        refine Tr.inR ?_
        refine Tr.thenR ?_
        refine Tr.ret1 Try.results4 rfl (fun w' hw => ?_)
        exfalso; simp_all
      · try simp only [bs] at h10
        refine Tr.skip ?_
        refine Tr.inN ?_
        refine Tr.thenN ?_
        refine Tr.region ?_
        refine Tr.q (QS.move rfl) rfl ?_
        first | refine Tr.q (QS.addI rfl rfl (by omega)) rfl ?_ | refine Tr.q (QS.add rfl rfl) rfl ?_
        refine Tr.q (QS.assign rfl) rfl ?_
        refine Tr.nil ?_
        refine Tr.thenN ?_
        apply Tr.again (k + 1)
        · exact rfl
        · exact (.cons (by first | rfl | exact lookI rfl (by omega) | exact lookI rfl (by simp) | exact lookB rfl (by simp)) Front.nil)
        · exact SubX.dropN 23 (by kernel_rfl) rfl
        · exact (by repeat' (first | exact Pick.nil _ | exact Del.here _ | apply Pick.cons | apply Del.there))
        · exact (by show k + 1 ≤ _; omega)
        · exact (by (try dsimp only); omega)
    · try simp only [bs] at h4
      refine Tr.exit ?_
      refine Tr.thenE ?_
      refine Tr.thenE ?_
      refine Tr.inHit ?_
      refine Tr.thenN ?_
      refine Tr.seq ?_
      refine Tr.region ?_
      refine Tr.q (QS.call rfl Try.call12 (fun w hw => example03_any w)) rfl ?_
      refine Tr.q (QS.assign rfl) rfl ?_
      refine Tr.nil ?_
      refine Tr.thenN ?_
      refine Tr.ret ?_
      refine Tr.ret1 Try.results4 rfl (fun w' hw => ?_)
      exact ⟨rfl, hw.below (Bg.le.refl _)⟩

set_option maxRecDepth 100000 in
set_option maxHeartbeats 2000000 in
theorem roundtrip_true (i : Ins) (b : List UInt8) (V : Value) (w : World) (hI : InsOK i) (hV : Sl (hp w) encU8 b V) :
    Calls Try.prog 9 #[.agg (encIns.enc i).toArray, V] w (fun e w' => e = .returned (.bool true) ∧ Ext w w') := by
  have hV' : Sl (Bg.of w).blk encU8 b V := hV
  have hlen := enc_len_le i
  have dk : ∀ {F L} (w : World) (V' : Value), HpOK F L w → rowE V' 5 encU8 ([] ++ encodeP i ++ b) ∈ L → errP i = 0 → Calls Try.prog 13 #[V', .int .u32 i.addr.toNat] w (fun e w'' => e = .returned (.tuple #[.agg (encIns.enc { i with size := (encodeP i).length }).toArray, .int .i64 0]) ∧ Ext w w'') := fun w V' hw hm h0 => by
    have q := decode_isa _ _ i.addr w (hw.row hm)
    rw [List.nil_append, dec_enc h0] at q; exact q
  refine enter Try.func9 rfl Try.ntmps9 rfl ?_
  refine Tr.seq ?_
  refine Tr.region ?_
  refine Tr.box rfl rfl rfl (fun b1 => ?_)
  refine Tr.q (QS.assign rfl) rfl ?_
  refine Tr.nil ?_
  refine Tr.thenN ?_
  refine Tr.seq ?_
  refine Tr.seq ?_
  refine Tr.region ?_
  refine Tr.q (QS.move rfl) rfl ?_
  refine Tr.q (QS.call rfl Try.call11 (fun w hw => few_any b V w (hw.slF hV))) rfl ?_
  refine Tr.q (QS.not rfl) rfl ?_
  refine Tr.nil ?_
  refine Tr.thenN ?_
  refine Tr.cond rfl (fun h2 => ?_) (fun h2 => ?_)
  · try simp only [bs] at h2
    refine Tr.seq ?_
    refine Tr.region ?_
    refine Tr.q (QS.call rfl Try.call12 (fun w hw => example03_any w)) rfl ?_
    refine Tr.q (QS.assign rfl) rfl ?_
    refine Tr.nil ?_
    refine Tr.thenN ?_
    refine Tr.ret ?_
    refine Tr.thenR ?_
    refine Tr.ret1 Try.results9 rfl (fun w' hw => ?_)
    exact ⟨rfl, hw.below (Bg.le.refl _)⟩
  · try simp only [bs] at h2
    refine Tr.skip ?_
    refine Tr.thenN ?_
    refine Tr.seq ?_
    refine Tr.region ?_
    refine Tr.q (QS.lW rfl Try.isAgg27 Try.sizeOf27) rfl ?_
    refine Tr.callRowF (fun V => .tuple #[V, .int .i64 (errP i)]) rfl Try.call15 (fun w hw => encode_rowF i w hI) rfl (fun V3 => ?_)
    refine Tr.q (QS.move rfl) rfl ?_
    refine Tr.q (QS.extract rfl rfl) rfl ?_
    refine Tr.q (QS.extract rfl rfl) rfl ?_
    refine Tr.q (QS.assign rfl) rfl ?_
    refine Tr.q (QS.assign rfl) rfl ?_
    refine Tr.nil ?_
    refine Tr.thenN ?_
    refine Tr.seq ?_
    refine Tr.seq ?_
    refine Tr.region ?_
    refine Tr.q (QS.move rfl) rfl ?_
    refine Tr.q (QS.neq rfl rfl) rfl ?_
    refine Tr.nil ?_
    refine Tr.thenN ?_
    refine Tr.cond rfl (fun h4 => ?_) (fun h4 => ?_)
    · try simp only [bs] at h4
      refine Tr.seq ?_
      refine Tr.regionQ HLF.mixed (by kernel_rfl) ?_
      refine TrQ.q (QS.move rfl) rfl ?_
      refine TrQ.q (QS.eql rfl rfl) rfl ?_
      refine TrQ.q (QS.move rfl) rfl ?_
      apply TrQ.orP
      · exact (rfl : _ = (3, 22, 25))
      · exact rfl
      · intro hF5; have hF5' := hF5
        try simp only [bs] at hF5'
        refine TrQ.gq rfl rfl hF5 (QS.move rfl) rfl ?_
        refine TrQ.gq rfl rfl hF5 (QS.eql rfl rfl) rfl ?_
        refine TrQ.q (QS.pickF rfl hF5 rfl) rfl ?_
        exact TrQ.end (Sub.cons rfl (Sub.dropN 3 (by kernel_rfl) rfl))
      · intro hT5
        refine TrQ.gskip rfl rfl hT5 rfl ?_
        refine TrQ.gskip rfl rfl hT5 rfl ?_
        refine TrQ.q (QS.pickT rfl hT5 rfl) rfl ?_
        exact TrQ.end (Sub.cons rfl (Sub.dropN 3 (by kernel_rfl) rfl))
      refine TrQ.q (QS.move rfl) rfl ?_
      apply TrQ.andP
      · exact (rfl : _ = (4, 26, 30))
      · exact rfl
      · intro hT6; have hT6' := hT6
        try simp only [bs] at hT6'
        refine TrQ.gq rfl rfl hT6 (QS.move rfl) rfl ?_
        first | refine TrQ.gq rfl rfl hT6 (QS.len rfl (by assumption) Try.underlying22) rfl ?_ | refine TrQ.gq rfl rfl hT6 (QS.lenRow rfl (by repeat (first | exact List.Mem.head _ | apply List.Mem.tail)) Try.underlying22) rfl ?_ | refine TrQ.gq rfl rfl hT6 (QS.lenNil rfl Try.underlying22) rfl ?_
        refine TrQ.gq rfl rfl hT6 (QS.eql rfl rfl) rfl ?_
        refine TrQ.q (QS.pickT rfl hT6 rfl) rfl ?_
        exact TrQ.end (Sub.cons rfl (Sub.dropN 4 (by kernel_rfl) rfl))
      · intro hF6
        refine TrQ.gskip rfl rfl hF6 rfl ?_
        refine TrQ.gskip rfl rfl hF6 rfl ?_
        refine TrQ.gskip rfl rfl hF6 rfl ?_
        refine TrQ.q (QS.pickF rfl hF6 rfl) rfl ?_
        exact TrQ.end (Sub.cons rfl (Sub.dropN 4 (by kernel_rfl) rfl))
      refine TrQ.q (QS.move rfl) rfl ?_
      apply TrQ.andP
      · exact (rfl : _ = (4, 31, 35))
      · exact rfl
      · intro hT7; have hT7' := hT7
        try simp only [bs] at hT7'
        refine TrQ.gq rfl rfl hT7 (QS.lW rfl Try.isAgg27 Try.sizeOf27) rfl ?_
        refine TrQ.gq rfl rfl hT7 (QS.call rfl Try.call23 (fun w hw => valid_isa i w hI)) rfl ?_
        refine TrQ.gq rfl rfl hT7 (QS.not rfl) rfl ?_
        refine TrQ.q (QS.pickT rfl hT7 rfl) rfl ?_
        exact TrQ.end (Sub.cons rfl (Sub.dropN 4 (by kernel_rfl) rfl))
      · intro hF7
        refine TrQ.gskip rfl rfl hF7 rfl ?_
        refine TrQ.gskip rfl rfl hF7 rfl ?_
        refine TrQ.gskip rfl rfl hF7 rfl ?_
        refine TrQ.q (QS.pickF rfl hF7 rfl) rfl ?_
        exact TrQ.end (Sub.cons rfl (Sub.dropN 4 (by kernel_rfl) rfl))
      refine TrQ.q (QS.move rfl) rfl ?_
      apply TrQ.andP
      · exact (rfl : _ = (4, 36, 40))
      · exact rfl
      · intro hT8; have hT8' := hT8
        try simp only [bs] at hT8'
        refine TrQ.gq rfl rfl hT8 (QS.lW rfl Try.isAgg27 Try.sizeOf27) rfl ?_
        refine TrQ.gq rfl rfl hT8 (QS.call rfl Try.call25 (fun w hw => length_isa i w hI)) rfl ?_
        refine TrQ.gq rfl rfl hT8 (QS.eql rfl rfl) rfl ?_
        refine TrQ.q (QS.pickT rfl hT8 rfl) rfl ?_
        exact TrQ.end (Sub.cons rfl (Sub.dropN 4 (by kernel_rfl) rfl))
      · intro hF8
        refine TrQ.gskip rfl rfl hF8 rfl ?_
        refine TrQ.gskip rfl rfl hF8 rfl ?_
        refine TrQ.gskip rfl rfl hF8 rfl ?_
        refine TrQ.q (QS.pickF rfl hF8 rfl) rfl ?_
        exact TrQ.end (Sub.cons rfl (Sub.dropN 4 (by kernel_rfl) rfl))
      refine TrQ.q (QS.move rfl) rfl ?_
      apply TrQ.andP
      · exact (rfl : _ = (6, 41, 47))
      · exact rfl
      · intro hT9; have hT9' := hT9
        try simp only [bs] at hT9'
        refine TrQ.gq rfl rfl hT9 (QS.lW rfl Try.isAgg27 Try.sizeOf27) rfl ?_
        refine TrQ.gq rfl rfl hT9 (QS.call rfl Try.call27 (fun w hw => next_isa i w hI)) rfl ?_
        refine TrQ.gq rfl rfl hT9 (QS.fieldAddr (off := 0) (ft := 23) rfl Try.underlying27 rfl rfl Try.sizeOf23 (by decide)) rfl ?_
        refine TrQ.gq rfl rfl hT9 (QS.lV rfl Try.isAgg23) rfl ?_
        refine TrQ.gq rfl rfl hT9 (QS.eql32 rfl rfl) rfl ?_
        refine TrQ.q (QS.pickT rfl hT9 rfl) rfl ?_
        exact TrQ.end (Sub.cons rfl (Sub.dropN 6 (by kernel_rfl) rfl))
      · intro hF9
        refine TrQ.gskip rfl rfl hF9 rfl ?_
        refine TrQ.gskip rfl rfl hF9 rfl ?_
        refine TrQ.gskip rfl rfl hF9 rfl ?_
        refine TrQ.gskip rfl rfl hF9 rfl ?_
        refine TrQ.gskip rfl rfl hF9 rfl ?_
        refine TrQ.q (QS.pickF rfl hF9 rfl) rfl ?_
        exact TrQ.end (Sub.cons rfl (Sub.dropN 6 (by kernel_rfl) rfl))
      refine TrQ.q (QS.move rfl) rfl ?_
      apply TrQ.andP
      · exact (rfl : _ = (2, 48, 50))
      · exact rfl
      · intro hT10; have hT10' := hT10
        try simp only [bs] at hT10'
        refine TrQ.gq rfl rfl hT10 (QS.call rfl Try.call12 (fun w hw => example03_any w)) rfl ?_
        refine TrQ.q (QS.pickT rfl hT10 rfl) rfl ?_
        exact TrQ.end (Sub.cons rfl (Sub.dropN 2 (by kernel_rfl) rfl))
      · intro hF10
        refine TrQ.gskip rfl rfl hF10 rfl ?_
        refine TrQ.q (QS.pickF rfl hF10 rfl) rfl ?_
        exact TrQ.end (Sub.cons rfl (Sub.dropN 2 (by kernel_rfl) rfl))
      refine TrQ.q (QS.assign rfl) rfl ?_
      refine TrQ.nil ?_
      refine Tr.thenN ?_
      refine Tr.ret ?_
      refine Tr.thenR ?_
      refine Tr.ret1 Try.results9 rfl (fun w' hw => ?_)
      exact ⟨by obtain ⟨g1, g2, g3⟩ := enc_bad (i := i) (by assumption); rw [g1, g2, g3]; have := errP_cases i; simp; simp_all, hw.below (Bg.le.refl _)⟩
    · try simp only [bs] at h4
      refine Tr.skip ?_
      refine Tr.thenN ?_
      refine Tr.seq ?_
      refine Tr.seq ?_
      have h0 : errP i = 0 := by simp_all
      have hef := enc_facts h0
      obtain ⟨f1, f2, f3⟩ := hef
      refine Tr.regionQ HLF.mixed (by kernel_rfl) ?_
      refine TrQ.q (QS.move rfl) rfl ?_
      first | refine TrQ.q (QS.len rfl (by assumption) Try.underlying22) rfl ?_ | refine TrQ.q (QS.lenRow rfl (by repeat (first | exact List.Mem.head _ | apply List.Mem.tail)) Try.underlying22) rfl ?_ | refine TrQ.q (QS.lenNil rfl Try.underlying22) rfl ?_
      refine TrQ.q (QS.lss rfl rfl) rfl ?_
      refine TrQ.q (QS.move rfl) rfl ?_
      apply TrQ.orP
      · exact (rfl : _ = (4, 54, 58))
      · exact rfl
      · intro hF11; have hF11' := hF11
        try simp only [bs] at hF11'
        refine TrQ.gq rfl rfl hF11 (QS.move rfl) rfl ?_
        first | refine TrQ.gq rfl rfl hF11 (QS.len rfl (by assumption) Try.underlying22) rfl ?_ | refine TrQ.gq rfl rfl hF11 (QS.lenRow rfl (by repeat (first | exact List.Mem.head _ | apply List.Mem.tail)) Try.underlying22) rfl ?_ | refine TrQ.gq rfl rfl hF11 (QS.lenNil rfl Try.underlying22) rfl ?_
        refine TrQ.gq rfl rfl hF11 (QS.gtr rfl rfl) rfl ?_
        refine TrQ.q (QS.pickF rfl hF11 rfl) rfl ?_
        exact TrQ.end (Sub.cons rfl (Sub.dropN 4 (by kernel_rfl) rfl))
      · intro hT11
        refine TrQ.gskip rfl rfl hT11 rfl ?_
        refine TrQ.gskip rfl rfl hT11 rfl ?_
        refine TrQ.gskip rfl rfl hT11 rfl ?_
        refine TrQ.q (QS.pickT rfl hT11 rfl) rfl ?_
        exact TrQ.end (Sub.cons rfl (Sub.dropN 4 (by kernel_rfl) rfl))
      refine TrQ.q (QS.move rfl) rfl ?_
      apply TrQ.orP
      · exact (rfl : _ = (4, 59, 63))
      · exact rfl
      · intro hF12; have hF12' := hF12
        try simp only [bs] at hF12'
        refine TrQ.gq rfl rfl hF12 (QS.lW rfl Try.isAgg27 Try.sizeOf27) rfl ?_
        refine TrQ.gq rfl rfl hF12 (QS.call rfl Try.call23 (fun w hw => valid_isa i w hI)) rfl ?_
        refine TrQ.gq rfl rfl hF12 (QS.not rfl) rfl ?_
        refine TrQ.q (QS.pickF rfl hF12 rfl) rfl ?_
        exact TrQ.end (Sub.cons rfl (Sub.dropN 4 (by kernel_rfl) rfl))
      · intro hT12
        refine TrQ.gskip rfl rfl hT12 rfl ?_
        refine TrQ.gskip rfl rfl hT12 rfl ?_
        refine TrQ.gskip rfl rfl hT12 rfl ?_
        refine TrQ.q (QS.pickT rfl hT12 rfl) rfl ?_
        exact TrQ.end (Sub.cons rfl (Sub.dropN 4 (by kernel_rfl) rfl))
      refine TrQ.q (QS.move rfl) rfl ?_
      apply TrQ.orP
      · exact (rfl : _ = (6, 64, 70))
      · exact rfl
      · intro hF13; have hF13' := hF13
        try simp only [bs] at hF13'
        refine TrQ.gq rfl rfl hF13 (QS.lW rfl Try.isAgg27 Try.sizeOf27) rfl ?_
        refine TrQ.gq rfl rfl hF13 (QS.call rfl Try.call25 (fun w hw => length_isa i w hI)) rfl ?_
        refine TrQ.gq rfl rfl hF13 (QS.move rfl) rfl ?_
        first | refine TrQ.gq rfl rfl hF13 (QS.len rfl (by assumption) Try.underlying22) rfl ?_ | refine TrQ.gq rfl rfl hF13 (QS.lenRow rfl (by repeat (first | exact List.Mem.head _ | apply List.Mem.tail)) Try.underlying22) rfl ?_ | refine TrQ.gq rfl rfl hF13 (QS.lenNil rfl Try.underlying22) rfl ?_
        refine TrQ.gq rfl rfl hF13 (QS.neq rfl rfl) rfl ?_
        refine TrQ.q (QS.pickF rfl hF13 rfl) rfl ?_
        exact TrQ.end (Sub.cons rfl (Sub.dropN 6 (by kernel_rfl) rfl))
      · intro hT13
        refine TrQ.gskip rfl rfl hT13 rfl ?_
        refine TrQ.gskip rfl rfl hT13 rfl ?_
        refine TrQ.gskip rfl rfl hT13 rfl ?_
        refine TrQ.gskip rfl rfl hT13 rfl ?_
        refine TrQ.gskip rfl rfl hT13 rfl ?_
        refine TrQ.q (QS.pickT rfl hT13 rfl) rfl ?_
        exact TrQ.end (Sub.cons rfl (Sub.dropN 6 (by kernel_rfl) rfl))
      refine TrQ.q (QS.move rfl) rfl ?_
      apply TrQ.orP
      · exact (rfl : _ = (10, 71, 81))
      · exact rfl
      · intro hF14; have hF14' := hF14
        try simp only [bs] at hF14'
        refine TrQ.gq rfl rfl hF14 (QS.lW rfl Try.isAgg27 Try.sizeOf27) rfl ?_
        refine TrQ.gq rfl rfl hF14 (QS.call rfl Try.call27 (fun w hw => next_isa i w hI)) rfl ?_
        refine TrQ.gq rfl rfl hF14 (QS.fieldAddr (off := 0) (ft := 23) rfl Try.underlying27 rfl rfl Try.sizeOf23 (by decide)) rfl ?_
        refine TrQ.gq rfl rfl hF14 (QS.lV rfl Try.isAgg23) rfl ?_
        refine TrQ.gq rfl rfl hF14 (QS.move rfl) rfl ?_
        first | refine TrQ.gq rfl rfl hF14 (QS.len rfl (by assumption) Try.underlying22) rfl ?_ | refine TrQ.gq rfl rfl hF14 (QS.lenRow rfl (by repeat (first | exact List.Mem.head _ | apply List.Mem.tail)) Try.underlying22) rfl ?_ | refine TrQ.gq rfl rfl hF14 (QS.lenNil rfl Try.underlying22) rfl ?_
        refine TrQ.gq rfl rfl hF14 (QS.cvtTo32 rfl Try.underlying3 Try.underlying23) rfl ?_
        refine TrQ.gq rfl rfl hF14 (QS.add32 rfl rfl) rfl ?_
        refine TrQ.gq rfl rfl hF14 (QS.neq32 rfl rfl) rfl ?_
        refine TrQ.q (QS.pickF rfl hF14 rfl) rfl ?_
        exact TrQ.end (Sub.cons rfl (Sub.dropN 10 (by kernel_rfl) rfl))
      · intro hT14
        refine TrQ.gskip rfl rfl hT14 rfl ?_
        refine TrQ.gskip rfl rfl hT14 rfl ?_
        refine TrQ.gskip rfl rfl hT14 rfl ?_
        refine TrQ.gskip rfl rfl hT14 rfl ?_
        refine TrQ.gskip rfl rfl hT14 rfl ?_
        refine TrQ.gskip rfl rfl hT14 rfl ?_
        refine TrQ.gskip rfl rfl hT14 rfl ?_
        refine TrQ.gskip rfl rfl hT14 rfl ?_
        refine TrQ.gskip rfl rfl hT14 rfl ?_
        refine TrQ.q (QS.pickT rfl hT14 rfl) rfl ?_
        exact TrQ.end (Sub.cons rfl (Sub.dropN 10 (by kernel_rfl) rfl))
      refine TrQ.nil ?_
      refine Tr.thenN ?_
      refine Tr.cond rfl (fun h15 => ?_) (fun h15 => ?_)
      · try simp only [bs] at h15
        refine Tr.seq ?_
        refine Tr.region ?_
        refine Tr.q (QS.assign rfl) rfl ?_
        refine Tr.nil ?_
        refine Tr.thenN ?_
        refine Tr.ret ?_
        refine Tr.thenR ?_
        refine Tr.ret1 Try.results9 rfl (fun w' hw => ?_)
        exfalso; simp_all [nextP]; omega
      · try simp only [bs] at h15
        refine Tr.skip ?_
        refine Tr.thenN ?_
        refine Tr.seq ?_
        refine Tr.regionH ([rowE V3 5 encU8 (encodeP i), cellE b1 (encIns.enc i) 27]) 14 rfl HLF.mixed ?_
        refine Tr.hT 1 rfl (by kernel_rfl) (panicThen panicBody) (QS.move rfl) ?_
        refine Tr.hT 3 rfl (by kernel_rfl) (panicThen panicBody) (QS.move rfl) ?_
        refine Tr.hT 5 rfl (by kernel_rfl) (panicThen panicBody) (QS.fieldAddr (off := 0) (ft := 23) rfl Try.underlying27 rfl rfl Try.sizeOf23 (by decide)) ?_
        refine Tr.hT 6 rfl (by kernel_rfl) (panicThen panicBody) (QS.lV rfl Try.isAgg23) ?_
        refine Tr.hAll [0, 11] (by kernel_rfl) (by simp) (fun iq hq => ?_)
        rcases List.mem_cons.1 hq with rfl | hq
        · skip
          refine Tr.hOp rfl ?_
          refine Tr.lit0 encU8 Try.underlying22 Try.sizeOf5 rfl (fun V16 => ?_)
          refine Tr.hN ?_
          refine Tr.hAll [2, 11] (by kernel_rfl) (by simp) (fun iq hq => ?_)
          rcases List.mem_cons.1 hq with rfl | hq
          · skip
            refine Tr.hOp rfl ?_
            refine Tr.appendOf rfl rfl (by repeat (first | exact Del.here _ | apply Del.there)) (fun w hw => hw.row (by repeat (first | exact List.Mem.head _ | apply List.Mem.tail))) Try.underlying22 HLF.info5 (by rfl) (by rfl) (by (try simp only [List.length_cons, List.length_nil, List.length_append, List.length_take]); omega) (by unfold maxLen; (try simp only [List.length_cons, List.length_nil, List.length_append, List.length_take]); omega) rfl (fun V17 => ?_)
            refine Tr.hN ?_
            refine Tr.hAll [4, 11] (by kernel_rfl) (by simp) (fun iq hq => ?_)
            rcases List.mem_cons.1 hq with rfl | hq
            · skip
              refine Tr.hOp rfl ?_
              refine Tr.appendOf rfl rfl (by repeat (first | exact Del.here _ | apply Del.there)) (fun w hw => hw.slF (by assumption)) Try.underlying22 HLF.info5 (by rfl) (by rfl) (by (try simp only [List.length_cons, List.length_nil, List.length_append, List.length_take]); omega) (by unfold maxLen; (try simp only [List.length_cons, List.length_nil, List.length_append, List.length_take]); omega) rfl (fun V18 => ?_)
              refine Tr.hN ?_
              refine Tr.hAll [7, 11] (by kernel_rfl) (by simp) (fun iq hq => ?_)
              rcases List.mem_cons.1 hq with rfl | hq
              · skip
                refine Tr.hOp rfl ?_
                refine Tr.q (QS.call rfl Try.call13 (fun w hw => dk w _ hw (by repeat (first | exact List.Mem.head _ | apply List.Mem.tail)) h0)) rfl ?_
                refine Tr.hN ?_
                refine Tr.hT 8 rfl (by kernel_rfl) (panicThen panicBody) (QS.move rfl) ?_
                refine Tr.hT 9 rfl (by kernel_rfl) (panicThen panicBody) (QS.extract rfl rfl) ?_
                refine Tr.hT 10 rfl (by kernel_rfl) (panicThen panicBody) (QS.extract rfl rfl) ?_
                refine Tr.hAll [11] (by kernel_rfl) (by simp) (fun iq hq => ?_)
                obtain rfl := List.mem_singleton.1 hq
                refine Tr.hOp rfl ?_
                refine Tr.alloc Try.zeroValue27 rfl rfl (fun b19 => ?_)
                refine Tr.hN ?_
                refine Tr.hAll [12] (by kernel_rfl) (by simp) (fun iq hq => ?_)
                obtain rfl := List.mem_singleton.1 hq
                refine Tr.hOp rfl ?_
                refine Tr.storeW rfl rfl Try.sizeOf27 (by repeat (first | exact Put.here _ | apply Put.there)) (by rfl) (by rfl) (by first | exact List.all_eq_true.1 rfl | exact Enc.one _ _ | exact Enc.one encIns _) rfl ?_
                refine Tr.hN ?_
                refine Tr.hT 13 rfl (by kernel_rfl) (panicThen panicBody) (QS.assign rfl) ?_
                refine Tr.hDone (by kernel_rfl) ?_
                refine Tr.thenN ?_
                refine Tr.seq ?_
                refine Tr.region ?_
                refine Tr.q (QS.move rfl) rfl ?_
                first | refine Tr.q (QS.len rfl (by assumption) Try.underlying22) rfl ?_ | refine Tr.q (QS.lenRow rfl (by repeat (first | exact List.Mem.head _ | apply List.Mem.tail)) Try.underlying22) rfl ?_ | refine Tr.q (QS.lenNil rfl Try.underlying22) rfl ?_
                refine Tr.q (QS.fieldAddr (off := 8) (ft := 3) rfl Try.underlying27 rfl rfl Try.sizeOf3 (by decide)) rfl ?_
                refine Tr.storeV (cs' := [_, _, _, _, _, _, _, _, _]) rfl rfl Try.sizeOf3 (by repeat (first | exact Put.here _ | apply Put.there)) rfl (by rfl) (by first | exact Nat.le_of_ble_eq_true rfl | simp) (by first | exact List.all_eq_true.1 rfl | (intro u hu; simp [Value.cells] at hu; simp_all [Value.oneCell'])) rfl ?_
                refine Tr.nil ?_
                refine Tr.thenN ?_
                refine Tr.seq ?_
                refine Tr.region ?_
                refine Tr.q (QS.move rfl) rfl ?_
                refine Tr.q (QS.eql rfl rfl) rfl ?_
                refine Tr.q (QS.move rfl) rfl ?_
                apply Tr.andP
                · exact (rfl : _ = (4, 98, 102))
                · exact rfl
                · intro hT20; have hT20' := hT20
                  try simp only [bs] at hT20'
                  refine Tr.gq rfl rfl hT20 (QS.lW rfl Try.isAgg27 Try.sizeOf27) rfl ?_
                  refine Tr.gq rfl rfl hT20 (QS.lW rfl Try.isAgg27 Try.sizeOf27) rfl ?_
                  refine Tr.gq rfl rfl hT20 (QS.eqlE (p := { i with size := (encodeP i).length }) (q := { i with size := (encodeP i).length }) rfl rfl insEqEnc Try.underlying27 (HLF.words27 _ Try.underlying27) rfl HLF.held27 HLF.eqg27) rfl ?_
                  refine Tr.q (QS.pickT rfl hT20 rfl) rfl ?_
                  refine Tr.nil (Tr.thenN ?_)
                  exact Tr.endX (Sub.cons rfl (Sub.dropN 4 (by kernel_rfl) rfl))
                · intro hF20
                  refine Tr.gskip rfl rfl hF20 rfl ?_
                  refine Tr.gskip rfl rfl hF20 rfl ?_
                  refine Tr.gskip rfl rfl hF20 rfl ?_
                  refine Tr.q (QS.pickF rfl hF20 rfl) rfl ?_
                  refine Tr.nil (Tr.thenN ?_)
                  exact Tr.endX (Sub.cons rfl (Sub.dropN 4 (by kernel_rfl) rfl))
                refine Tr.q (QS.move rfl) rfl ?_
                apply Tr.andP
                · exact (rfl : _ = (2, 103, 105))
                · exact rfl
                · intro hT21; have hT21' := hT21
                  try simp only [bs] at hT21'
                  refine Tr.gq rfl rfl hT21 (QS.call rfl Try.call12 (fun w hw => example03_any w)) rfl ?_
                  refine Tr.q (QS.pickT rfl hT21 rfl) rfl ?_
                  refine Tr.nil (Tr.thenN ?_)
                  exact Tr.endX (Sub.cons rfl (Sub.dropN 2 (by kernel_rfl) rfl))
                · intro hF21
                  refine Tr.gskip rfl rfl hF21 rfl ?_
                  refine Tr.q (QS.pickF rfl hF21 rfl) rfl ?_
                  refine Tr.nil (Tr.thenN ?_)
                  exact Tr.endX (Sub.cons rfl (Sub.dropN 2 (by kernel_rfl) rfl))
                refine Tr.q (QS.assign rfl) rfl ?_
                refine Tr.nil ?_
                refine Tr.thenN ?_
                refine Tr.ret ?_
                refine Tr.ret1 Try.results9 rfl (fun w' hw => ?_)
                exact ⟨by simp, hw.below (Bg.le.refl _)⟩
              obtain rfl := List.mem_singleton.1 hq
              refine Tr.hOp rfl ?_
              refine Tr.alloc Try.zeroValue27 rfl rfl (fun b22 => ?_)
              refine Tr.hN ?_
              refine Tr.hAll [7] (by kernel_rfl) (by simp) (fun iq hq => ?_)
              obtain rfl := List.mem_singleton.1 hq
              refine Tr.hOp rfl ?_
              refine Tr.q (QS.call rfl Try.call13 (fun w hw => dk w _ hw (by repeat (first | exact List.Mem.head _ | apply List.Mem.tail)) h0)) rfl ?_
              refine Tr.hN ?_
              refine Tr.hT 8 rfl (by kernel_rfl) (panicThen panicBody) (QS.move rfl) ?_
              refine Tr.hT 9 rfl (by kernel_rfl) (panicThen panicBody) (QS.extract rfl rfl) ?_
              refine Tr.hT 10 rfl (by kernel_rfl) (panicThen panicBody) (QS.extract rfl rfl) ?_
              refine Tr.hAll [12] (by kernel_rfl) (by simp) (fun iq hq => ?_)
              obtain rfl := List.mem_singleton.1 hq
              refine Tr.hOp rfl ?_
              refine Tr.storeW rfl rfl Try.sizeOf27 (by repeat (first | exact Put.here _ | apply Put.there)) (by rfl) (by rfl) (by first | exact List.all_eq_true.1 rfl | exact Enc.one _ _ | exact Enc.one encIns _) rfl ?_
              refine Tr.hN ?_
              refine Tr.hT 13 rfl (by kernel_rfl) (panicThen panicBody) (QS.assign rfl) ?_
              refine Tr.hDone (by kernel_rfl) ?_
              refine Tr.thenN ?_
              refine Tr.seq ?_
              refine Tr.region ?_
              refine Tr.q (QS.move rfl) rfl ?_
              first | refine Tr.q (QS.len rfl (by assumption) Try.underlying22) rfl ?_ | refine Tr.q (QS.lenRow rfl (by repeat (first | exact List.Mem.head _ | apply List.Mem.tail)) Try.underlying22) rfl ?_ | refine Tr.q (QS.lenNil rfl Try.underlying22) rfl ?_
              refine Tr.q (QS.fieldAddr (off := 8) (ft := 3) rfl Try.underlying27 rfl rfl Try.sizeOf3 (by decide)) rfl ?_
              refine Tr.storeV (cs' := [_, _, _, _, _, _, _, _, _]) rfl rfl Try.sizeOf3 (by repeat (first | exact Put.here _ | apply Put.there)) rfl (by rfl) (by first | exact Nat.le_of_ble_eq_true rfl | simp) (by first | exact List.all_eq_true.1 rfl | (intro u hu; simp [Value.cells] at hu; simp_all [Value.oneCell'])) rfl ?_
              refine Tr.nil ?_
              refine Tr.thenN ?_
              refine Tr.seq ?_
              refine Tr.region ?_
              refine Tr.q (QS.move rfl) rfl ?_
              refine Tr.q (QS.eql rfl rfl) rfl ?_
              refine Tr.q (QS.move rfl) rfl ?_
              apply Tr.andP
              · exact (rfl : _ = (4, 98, 102))
              · exact rfl
              · intro hT23; have hT23' := hT23
                try simp only [bs] at hT23'
                refine Tr.gq rfl rfl hT23 (QS.lW rfl Try.isAgg27 Try.sizeOf27) rfl ?_
                refine Tr.gq rfl rfl hT23 (QS.lW rfl Try.isAgg27 Try.sizeOf27) rfl ?_
                refine Tr.gq rfl rfl hT23 (QS.eqlE (p := { i with size := (encodeP i).length }) (q := { i with size := (encodeP i).length }) rfl rfl insEqEnc Try.underlying27 (HLF.words27 _ Try.underlying27) rfl HLF.held27 HLF.eqg27) rfl ?_
                refine Tr.q (QS.pickT rfl hT23 rfl) rfl ?_
                refine Tr.nil (Tr.thenN ?_)
                exact Tr.endX (Sub.cons rfl (Sub.dropN 4 (by kernel_rfl) rfl))
              · intro hF23
                refine Tr.gskip rfl rfl hF23 rfl ?_
                refine Tr.gskip rfl rfl hF23 rfl ?_
                refine Tr.gskip rfl rfl hF23 rfl ?_
                refine Tr.q (QS.pickF rfl hF23 rfl) rfl ?_
                refine Tr.nil (Tr.thenN ?_)
                exact Tr.endX (Sub.cons rfl (Sub.dropN 4 (by kernel_rfl) rfl))
              refine Tr.q (QS.move rfl) rfl ?_
              apply Tr.andP
              · exact (rfl : _ = (2, 103, 105))
              · exact rfl
              · intro hT24; have hT24' := hT24
                try simp only [bs] at hT24'
                refine Tr.gq rfl rfl hT24 (QS.call rfl Try.call12 (fun w hw => example03_any w)) rfl ?_
                refine Tr.q (QS.pickT rfl hT24 rfl) rfl ?_
                refine Tr.nil (Tr.thenN ?_)
                exact Tr.endX (Sub.cons rfl (Sub.dropN 2 (by kernel_rfl) rfl))
              · intro hF24
                refine Tr.gskip rfl rfl hF24 rfl ?_
                refine Tr.q (QS.pickF rfl hF24 rfl) rfl ?_
                refine Tr.nil (Tr.thenN ?_)
                exact Tr.endX (Sub.cons rfl (Sub.dropN 2 (by kernel_rfl) rfl))
              refine Tr.q (QS.assign rfl) rfl ?_
              refine Tr.nil ?_
              refine Tr.thenN ?_
              refine Tr.ret ?_
              refine Tr.ret1 Try.results9 rfl (fun w' hw => ?_)
              exact ⟨by simp, hw.below (Bg.le.refl _)⟩
            obtain rfl := List.mem_singleton.1 hq
            refine Tr.hOp rfl ?_
            refine Tr.alloc Try.zeroValue27 rfl rfl (fun b25 => ?_)
            refine Tr.hN ?_
            refine Tr.hAll [4] (by kernel_rfl) (by simp) (fun iq hq => ?_)
            obtain rfl := List.mem_singleton.1 hq
            refine Tr.hOp rfl ?_
            refine Tr.appendOf rfl rfl (by repeat (first | exact Del.here _ | apply Del.there)) (fun w hw => hw.slF (by assumption)) Try.underlying22 HLF.info5 (by rfl) (by rfl) (by (try simp only [List.length_cons, List.length_nil, List.length_append, List.length_take]); omega) (by unfold maxLen; (try simp only [List.length_cons, List.length_nil, List.length_append, List.length_take]); omega) rfl (fun V26 => ?_)
            refine Tr.hN ?_
            refine Tr.hAll [7] (by kernel_rfl) (by simp) (fun iq hq => ?_)
            obtain rfl := List.mem_singleton.1 hq
            refine Tr.hOp rfl ?_
            refine Tr.q (QS.call rfl Try.call13 (fun w hw => dk w _ hw (by repeat (first | exact List.Mem.head _ | apply List.Mem.tail)) h0)) rfl ?_
            refine Tr.hN ?_
            refine Tr.hT 8 rfl (by kernel_rfl) (panicThen panicBody) (QS.move rfl) ?_
            refine Tr.hT 9 rfl (by kernel_rfl) (panicThen panicBody) (QS.extract rfl rfl) ?_
            refine Tr.hT 10 rfl (by kernel_rfl) (panicThen panicBody) (QS.extract rfl rfl) ?_
            refine Tr.hAll [12] (by kernel_rfl) (by simp) (fun iq hq => ?_)
            obtain rfl := List.mem_singleton.1 hq
            refine Tr.hOp rfl ?_
            refine Tr.storeW rfl rfl Try.sizeOf27 (by repeat (first | exact Put.here _ | apply Put.there)) (by rfl) (by rfl) (by first | exact List.all_eq_true.1 rfl | exact Enc.one _ _ | exact Enc.one encIns _) rfl ?_
            refine Tr.hN ?_
            refine Tr.hT 13 rfl (by kernel_rfl) (panicThen panicBody) (QS.assign rfl) ?_
            refine Tr.hDone (by kernel_rfl) ?_
            refine Tr.thenN ?_
            refine Tr.seq ?_
            refine Tr.region ?_
            refine Tr.q (QS.move rfl) rfl ?_
            first | refine Tr.q (QS.len rfl (by assumption) Try.underlying22) rfl ?_ | refine Tr.q (QS.lenRow rfl (by repeat (first | exact List.Mem.head _ | apply List.Mem.tail)) Try.underlying22) rfl ?_ | refine Tr.q (QS.lenNil rfl Try.underlying22) rfl ?_
            refine Tr.q (QS.fieldAddr (off := 8) (ft := 3) rfl Try.underlying27 rfl rfl Try.sizeOf3 (by decide)) rfl ?_
            refine Tr.storeV (cs' := [_, _, _, _, _, _, _, _, _]) rfl rfl Try.sizeOf3 (by repeat (first | exact Put.here _ | apply Put.there)) rfl (by rfl) (by first | exact Nat.le_of_ble_eq_true rfl | simp) (by first | exact List.all_eq_true.1 rfl | (intro u hu; simp [Value.cells] at hu; simp_all [Value.oneCell'])) rfl ?_
            refine Tr.nil ?_
            refine Tr.thenN ?_
            refine Tr.seq ?_
            refine Tr.region ?_
            refine Tr.q (QS.move rfl) rfl ?_
            refine Tr.q (QS.eql rfl rfl) rfl ?_
            refine Tr.q (QS.move rfl) rfl ?_
            apply Tr.andP
            · exact (rfl : _ = (4, 98, 102))
            · exact rfl
            · intro hT27; have hT27' := hT27
              try simp only [bs] at hT27'
              refine Tr.gq rfl rfl hT27 (QS.lW rfl Try.isAgg27 Try.sizeOf27) rfl ?_
              refine Tr.gq rfl rfl hT27 (QS.lW rfl Try.isAgg27 Try.sizeOf27) rfl ?_
              refine Tr.gq rfl rfl hT27 (QS.eqlE (p := { i with size := (encodeP i).length }) (q := { i with size := (encodeP i).length }) rfl rfl insEqEnc Try.underlying27 (HLF.words27 _ Try.underlying27) rfl HLF.held27 HLF.eqg27) rfl ?_
              refine Tr.q (QS.pickT rfl hT27 rfl) rfl ?_
              refine Tr.nil (Tr.thenN ?_)
              exact Tr.endX (Sub.cons rfl (Sub.dropN 4 (by kernel_rfl) rfl))
            · intro hF27
              refine Tr.gskip rfl rfl hF27 rfl ?_
              refine Tr.gskip rfl rfl hF27 rfl ?_
              refine Tr.gskip rfl rfl hF27 rfl ?_
              refine Tr.q (QS.pickF rfl hF27 rfl) rfl ?_
              refine Tr.nil (Tr.thenN ?_)
              exact Tr.endX (Sub.cons rfl (Sub.dropN 4 (by kernel_rfl) rfl))
            refine Tr.q (QS.move rfl) rfl ?_
            apply Tr.andP
            · exact (rfl : _ = (2, 103, 105))
            · exact rfl
            · intro hT28; have hT28' := hT28
              try simp only [bs] at hT28'
              refine Tr.gq rfl rfl hT28 (QS.call rfl Try.call12 (fun w hw => example03_any w)) rfl ?_
              refine Tr.q (QS.pickT rfl hT28 rfl) rfl ?_
              refine Tr.nil (Tr.thenN ?_)
              exact Tr.endX (Sub.cons rfl (Sub.dropN 2 (by kernel_rfl) rfl))
            · intro hF28
              refine Tr.gskip rfl rfl hF28 rfl ?_
              refine Tr.q (QS.pickF rfl hF28 rfl) rfl ?_
              refine Tr.nil (Tr.thenN ?_)
              exact Tr.endX (Sub.cons rfl (Sub.dropN 2 (by kernel_rfl) rfl))
            refine Tr.q (QS.assign rfl) rfl ?_
            refine Tr.nil ?_
            refine Tr.thenN ?_
            refine Tr.ret ?_
            refine Tr.ret1 Try.results9 rfl (fun w' hw => ?_)
            exact ⟨by simp, hw.below (Bg.le.refl _)⟩
          obtain rfl := List.mem_singleton.1 hq
          refine Tr.hOp rfl ?_
          refine Tr.alloc Try.zeroValue27 rfl rfl (fun b29 => ?_)
          refine Tr.hN ?_
          refine Tr.hAll [2] (by kernel_rfl) (by simp) (fun iq hq => ?_)
          obtain rfl := List.mem_singleton.1 hq
          refine Tr.hOp rfl ?_
          refine Tr.appendOf rfl rfl (by repeat (first | exact Del.here _ | apply Del.there)) (fun w hw => hw.row (by repeat (first | exact List.Mem.head _ | apply List.Mem.tail))) Try.underlying22 HLF.info5 (by rfl) (by rfl) (by (try simp only [List.length_cons, List.length_nil, List.length_append, List.length_take]); omega) (by unfold maxLen; (try simp only [List.length_cons, List.length_nil, List.length_append, List.length_take]); omega) rfl (fun V30 => ?_)
          refine Tr.hN ?_
          refine Tr.hAll [4] (by kernel_rfl) (by simp) (fun iq hq => ?_)
          obtain rfl := List.mem_singleton.1 hq
          refine Tr.hOp rfl ?_
          refine Tr.appendOf rfl rfl (by repeat (first | exact Del.here _ | apply Del.there)) (fun w hw => hw.slF (by assumption)) Try.underlying22 HLF.info5 (by rfl) (by rfl) (by (try simp only [List.length_cons, List.length_nil, List.length_append, List.length_take]); omega) (by unfold maxLen; (try simp only [List.length_cons, List.length_nil, List.length_append, List.length_take]); omega) rfl (fun V31 => ?_)
          refine Tr.hN ?_
          refine Tr.hAll [7] (by kernel_rfl) (by simp) (fun iq hq => ?_)
          obtain rfl := List.mem_singleton.1 hq
          refine Tr.hOp rfl ?_
          refine Tr.q (QS.call rfl Try.call13 (fun w hw => dk w _ hw (by repeat (first | exact List.Mem.head _ | apply List.Mem.tail)) h0)) rfl ?_
          refine Tr.hN ?_
          refine Tr.hT 8 rfl (by kernel_rfl) (panicThen panicBody) (QS.move rfl) ?_
          refine Tr.hT 9 rfl (by kernel_rfl) (panicThen panicBody) (QS.extract rfl rfl) ?_
          refine Tr.hT 10 rfl (by kernel_rfl) (panicThen panicBody) (QS.extract rfl rfl) ?_
          refine Tr.hAll [12] (by kernel_rfl) (by simp) (fun iq hq => ?_)
          obtain rfl := List.mem_singleton.1 hq
          refine Tr.hOp rfl ?_
          refine Tr.storeW rfl rfl Try.sizeOf27 (by repeat (first | exact Put.here _ | apply Put.there)) (by rfl) (by rfl) (by first | exact List.all_eq_true.1 rfl | exact Enc.one _ _ | exact Enc.one encIns _) rfl ?_
          refine Tr.hN ?_
          refine Tr.hT 13 rfl (by kernel_rfl) (panicThen panicBody) (QS.assign rfl) ?_
          refine Tr.hDone (by kernel_rfl) ?_
          refine Tr.thenN ?_
          refine Tr.seq ?_
          refine Tr.region ?_
          refine Tr.q (QS.move rfl) rfl ?_
          first | refine Tr.q (QS.len rfl (by assumption) Try.underlying22) rfl ?_ | refine Tr.q (QS.lenRow rfl (by repeat (first | exact List.Mem.head _ | apply List.Mem.tail)) Try.underlying22) rfl ?_ | refine Tr.q (QS.lenNil rfl Try.underlying22) rfl ?_
          refine Tr.q (QS.fieldAddr (off := 8) (ft := 3) rfl Try.underlying27 rfl rfl Try.sizeOf3 (by decide)) rfl ?_
          refine Tr.storeV (cs' := [_, _, _, _, _, _, _, _, _]) rfl rfl Try.sizeOf3 (by repeat (first | exact Put.here _ | apply Put.there)) rfl (by rfl) (by first | exact Nat.le_of_ble_eq_true rfl | simp) (by first | exact List.all_eq_true.1 rfl | (intro u hu; simp [Value.cells] at hu; simp_all [Value.oneCell'])) rfl ?_
          refine Tr.nil ?_
          refine Tr.thenN ?_
          refine Tr.seq ?_
          refine Tr.region ?_
          refine Tr.q (QS.move rfl) rfl ?_
          refine Tr.q (QS.eql rfl rfl) rfl ?_
          refine Tr.q (QS.move rfl) rfl ?_
          apply Tr.andP
          · exact (rfl : _ = (4, 98, 102))
          · exact rfl
          · intro hT32; have hT32' := hT32
            try simp only [bs] at hT32'
            refine Tr.gq rfl rfl hT32 (QS.lW rfl Try.isAgg27 Try.sizeOf27) rfl ?_
            refine Tr.gq rfl rfl hT32 (QS.lW rfl Try.isAgg27 Try.sizeOf27) rfl ?_
            refine Tr.gq rfl rfl hT32 (QS.eqlE (p := { i with size := (encodeP i).length }) (q := { i with size := (encodeP i).length }) rfl rfl insEqEnc Try.underlying27 (HLF.words27 _ Try.underlying27) rfl HLF.held27 HLF.eqg27) rfl ?_
            refine Tr.q (QS.pickT rfl hT32 rfl) rfl ?_
            refine Tr.nil (Tr.thenN ?_)
            exact Tr.endX (Sub.cons rfl (Sub.dropN 4 (by kernel_rfl) rfl))
          · intro hF32
            refine Tr.gskip rfl rfl hF32 rfl ?_
            refine Tr.gskip rfl rfl hF32 rfl ?_
            refine Tr.gskip rfl rfl hF32 rfl ?_
            refine Tr.q (QS.pickF rfl hF32 rfl) rfl ?_
            refine Tr.nil (Tr.thenN ?_)
            exact Tr.endX (Sub.cons rfl (Sub.dropN 4 (by kernel_rfl) rfl))
          refine Tr.q (QS.move rfl) rfl ?_
          apply Tr.andP
          · exact (rfl : _ = (2, 103, 105))
          · exact rfl
          · intro hT33; have hT33' := hT33
            try simp only [bs] at hT33'
            refine Tr.gq rfl rfl hT33 (QS.call rfl Try.call12 (fun w hw => example03_any w)) rfl ?_
            refine Tr.q (QS.pickT rfl hT33 rfl) rfl ?_
            refine Tr.nil (Tr.thenN ?_)
            exact Tr.endX (Sub.cons rfl (Sub.dropN 2 (by kernel_rfl) rfl))
          · intro hF33
            refine Tr.gskip rfl rfl hF33 rfl ?_
            refine Tr.q (QS.pickF rfl hF33 rfl) rfl ?_
            refine Tr.nil (Tr.thenN ?_)
            exact Tr.endX (Sub.cons rfl (Sub.dropN 2 (by kernel_rfl) rfl))
          refine Tr.q (QS.assign rfl) rfl ?_
          refine Tr.nil ?_
          refine Tr.thenN ?_
          refine Tr.ret ?_
          refine Tr.ret1 Try.results9 rfl (fun w' hw => ?_)
          exact ⟨by simp, hw.below (Bg.le.refl _)⟩
        obtain rfl := List.mem_singleton.1 hq
        refine Tr.hOp rfl ?_
        refine Tr.alloc Try.zeroValue27 rfl rfl (fun b34 => ?_)
        refine Tr.hN ?_
        refine Tr.hAll [0] (by kernel_rfl) (by simp) (fun iq hq => ?_)
        obtain rfl := List.mem_singleton.1 hq
        refine Tr.hOp rfl ?_
        refine Tr.lit0 encU8 Try.underlying22 Try.sizeOf5 rfl (fun V35 => ?_)
        refine Tr.hN ?_
        refine Tr.hAll [2] (by kernel_rfl) (by simp) (fun iq hq => ?_)
        obtain rfl := List.mem_singleton.1 hq
        refine Tr.hOp rfl ?_
        refine Tr.appendOf rfl rfl (by repeat (first | exact Del.here _ | apply Del.there)) (fun w hw => hw.row (by repeat (first | exact List.Mem.head _ | apply List.Mem.tail))) Try.underlying22 HLF.info5 (by rfl) (by rfl) (by (try simp only [List.length_cons, List.length_nil, List.length_append, List.length_take]); omega) (by unfold maxLen; (try simp only [List.length_cons, List.length_nil, List.length_append, List.length_take]); omega) rfl (fun V36 => ?_)
        refine Tr.hN ?_
        refine Tr.hAll [4] (by kernel_rfl) (by simp) (fun iq hq => ?_)
        obtain rfl := List.mem_singleton.1 hq
        refine Tr.hOp rfl ?_
        refine Tr.appendOf rfl rfl (by repeat (first | exact Del.here _ | apply Del.there)) (fun w hw => hw.slF (by assumption)) Try.underlying22 HLF.info5 (by rfl) (by rfl) (by (try simp only [List.length_cons, List.length_nil, List.length_append, List.length_take]); omega) (by unfold maxLen; (try simp only [List.length_cons, List.length_nil, List.length_append, List.length_take]); omega) rfl (fun V37 => ?_)
        refine Tr.hN ?_
        refine Tr.hAll [7] (by kernel_rfl) (by simp) (fun iq hq => ?_)
        obtain rfl := List.mem_singleton.1 hq
        refine Tr.hOp rfl ?_
        refine Tr.q (QS.call rfl Try.call13 (fun w hw => dk w _ hw (by repeat (first | exact List.Mem.head _ | apply List.Mem.tail)) h0)) rfl ?_
        refine Tr.hN ?_
        refine Tr.hT 8 rfl (by kernel_rfl) (panicThen panicBody) (QS.move rfl) ?_
        refine Tr.hT 9 rfl (by kernel_rfl) (panicThen panicBody) (QS.extract rfl rfl) ?_
        refine Tr.hT 10 rfl (by kernel_rfl) (panicThen panicBody) (QS.extract rfl rfl) ?_
        refine Tr.hAll [12] (by kernel_rfl) (by simp) (fun iq hq => ?_)
        obtain rfl := List.mem_singleton.1 hq
        refine Tr.hOp rfl ?_
        refine Tr.storeW rfl rfl Try.sizeOf27 (by repeat (first | exact Put.here _ | apply Put.there)) (by rfl) (by rfl) (by first | exact List.all_eq_true.1 rfl | exact Enc.one _ _ | exact Enc.one encIns _) rfl ?_
        refine Tr.hN ?_
        refine Tr.hT 13 rfl (by kernel_rfl) (panicThen panicBody) (QS.assign rfl) ?_
        refine Tr.hDone (by kernel_rfl) ?_
        refine Tr.thenN ?_
        refine Tr.seq ?_
        refine Tr.region ?_
        refine Tr.q (QS.move rfl) rfl ?_
        first | refine Tr.q (QS.len rfl (by assumption) Try.underlying22) rfl ?_ | refine Tr.q (QS.lenRow rfl (by repeat (first | exact List.Mem.head _ | apply List.Mem.tail)) Try.underlying22) rfl ?_ | refine Tr.q (QS.lenNil rfl Try.underlying22) rfl ?_
        refine Tr.q (QS.fieldAddr (off := 8) (ft := 3) rfl Try.underlying27 rfl rfl Try.sizeOf3 (by decide)) rfl ?_
        refine Tr.storeV (cs' := [_, _, _, _, _, _, _, _, _]) rfl rfl Try.sizeOf3 (by repeat (first | exact Put.here _ | apply Put.there)) rfl (by rfl) (by first | exact Nat.le_of_ble_eq_true rfl | simp) (by first | exact List.all_eq_true.1 rfl | (intro u hu; simp [Value.cells] at hu; simp_all [Value.oneCell'])) rfl ?_
        refine Tr.nil ?_
        refine Tr.thenN ?_
        refine Tr.seq ?_
        refine Tr.region ?_
        refine Tr.q (QS.move rfl) rfl ?_
        refine Tr.q (QS.eql rfl rfl) rfl ?_
        refine Tr.q (QS.move rfl) rfl ?_
        apply Tr.andP
        · exact (rfl : _ = (4, 98, 102))
        · exact rfl
        · intro hT38; have hT38' := hT38
          try simp only [bs] at hT38'
          refine Tr.gq rfl rfl hT38 (QS.lW rfl Try.isAgg27 Try.sizeOf27) rfl ?_
          refine Tr.gq rfl rfl hT38 (QS.lW rfl Try.isAgg27 Try.sizeOf27) rfl ?_
          refine Tr.gq rfl rfl hT38 (QS.eqlE (p := { i with size := (encodeP i).length }) (q := { i with size := (encodeP i).length }) rfl rfl insEqEnc Try.underlying27 (HLF.words27 _ Try.underlying27) rfl HLF.held27 HLF.eqg27) rfl ?_
          refine Tr.q (QS.pickT rfl hT38 rfl) rfl ?_
          refine Tr.nil (Tr.thenN ?_)
          exact Tr.endX (Sub.cons rfl (Sub.dropN 4 (by kernel_rfl) rfl))
        · intro hF38
          refine Tr.gskip rfl rfl hF38 rfl ?_
          refine Tr.gskip rfl rfl hF38 rfl ?_
          refine Tr.gskip rfl rfl hF38 rfl ?_
          refine Tr.q (QS.pickF rfl hF38 rfl) rfl ?_
          refine Tr.nil (Tr.thenN ?_)
          exact Tr.endX (Sub.cons rfl (Sub.dropN 4 (by kernel_rfl) rfl))
        refine Tr.q (QS.move rfl) rfl ?_
        apply Tr.andP
        · exact (rfl : _ = (2, 103, 105))
        · exact rfl
        · intro hT39; have hT39' := hT39
          try simp only [bs] at hT39'
          refine Tr.gq rfl rfl hT39 (QS.call rfl Try.call12 (fun w hw => example03_any w)) rfl ?_
          refine Tr.q (QS.pickT rfl hT39 rfl) rfl ?_
          refine Tr.nil (Tr.thenN ?_)
          exact Tr.endX (Sub.cons rfl (Sub.dropN 2 (by kernel_rfl) rfl))
        · intro hF39
          refine Tr.gskip rfl rfl hF39 rfl ?_
          refine Tr.q (QS.pickF rfl hF39 rfl) rfl ?_
          refine Tr.nil (Tr.thenN ?_)
          exact Tr.endX (Sub.cons rfl (Sub.dropN 2 (by kernel_rfl) rfl))
        refine Tr.q (QS.assign rfl) rfl ?_
        refine Tr.nil ?_
        refine Tr.thenN ?_
        refine Tr.ret ?_
        refine Tr.ret1 Try.results9 rfl (fun w' hw => ?_)
        exact ⟨by simp, hw.below (Bg.le.refl _)⟩

end Go.Proofs.Ytohjofdnapbeiaa
