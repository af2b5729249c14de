/- Own rules and walks, part 3. -/
import Derived.Test.YtpeaodkfbjenpaaB2
set_option linter.unusedSimpArgs false
set_option linter.unusedVariables false
set_option linter.unusedSectionVars false
namespace Go.HL
open Go Go.RowKit Go.ChangeMaps Go.MapKept
section
variable {P : Program} {ops : Array Oper} {Q : Exit → Act → World → Prop} {N : Nat} {F : Bg} {L : List Ent} {M : Fr} {dst : Option Tmp} {ty : TypeId} {pos : String} {after : Array Edge} {g : Option (Nat × Bool)} {rest : List Oper} {d : Nat}
theorem ptr_eq_in {t e : TypeId} {p : Option Addr} (ht : P.underlying t = some (.pointer e)) (d : Nat) (w : World) : (Op.equalIn (d + 1) t (.pointer p) (.pointer none)).run P w = .ok p.isNone w := by
  cases p <;> simp [Op.equalIn, run_underlying ht]
theorem ptr_eq_run {t e : TypeId} {p : Option Addr} (ht : P.underlying t = some (.pointer e)) (w : World) : (Op.equal t (.pointer p) (.pointer none)).run P w = .ok p.isNone w := ptr_eq_in ht 9999 w
theorem map_eq_in {t k e : TypeId} {p : Option Nat} (ht : P.underlying t = some (.map k e)) (d : Nat) (w : World) : (Op.equalIn (d + 1) t (.map p) (.map none)).run P w = .ok p.isNone w := by
  cases p <;> simp [Op.equalIn, run_underlying ht]
theorem map_eq_run {t k e : TypeId} {p : Option Nat} (ht : P.underlying t = some (.map k e)) (w : World) : (Op.equal t (.map p) (.map none)).run P w = .ok p.isNone w := map_eq_in ht 9999 w
theorem QS.eqlPN {x y : Operand} {t e u : TypeId} {p : Option Addr} {b : Bool} (hx : opv M x = some (.pointer p)) (hy : opv M y = some (.pointer none)) (ht : P.underlying t = some (.pointer e)) (hb : p.isNone = b) :
    QS P N F L M ⟨dst, .binOp .eql t x y u, ty, pos, after, g⟩ (.bool b) :=
  QS.of_run fun a w ha _ => by
    subst hb
    have he : (eqGuard .eql t x y (.pointer p) (.pointer none)).run P w = .ok () w := by unfold eqGuard; simp
    have hq := ptr_eq_run (P := P) (p := p) ht w
    simp [execOp, ha.eval hx, ha.eval hy, binOp, he, hq]
theorem QS.neqPN {x y : Operand} {t e u : TypeId} {p : Option Addr} {b : Bool} (hx : opv M x = some (.pointer p)) (hy : opv M y = some (.pointer none)) (ht : P.underlying t = some (.pointer e)) (hb : p.isSome = b) :
    QS P N F L M ⟨dst, .binOp .neq t x y u, ty, pos, after, g⟩ (.bool b) :=
  QS.of_run fun a w ha _ => by
    subst hb
    have he : (eqGuard .neq t x y (.pointer p) (.pointer none)).run P w = .ok () w := by unfold eqGuard; simp
    have hq := ptr_eq_run (P := P) (p := p) ht w
    simp [execOp, ha.eval hx, ha.eval hy, binOp, he, hq]
theorem QS.neqMN {x y : Operand} {t k e u : TypeId} {p : Option Nat} {b : Bool} (hx : opv M x = some (.map p)) (hy : opv M y = some (.map none)) (ht : P.underlying t = some (.map k e)) (hb : p.isSome = b) :
    QS P N F L M ⟨dst, .binOp .neq t x y u, ty, pos, after, g⟩ (.bool b) :=
  QS.of_run fun a w ha _ => by
    subst hb
    have he : (eqGuard .neq t x y (.map p) (.map none)).run P w = .ok () w := by unfold eqGuard; simp
    have hq := map_eq_run (P := P) (p := p) ht w
    simp [execOp, ha.eval hx, ha.eval hy, binOp, he, hq]
theorem mval_u8 (o : Option UInt8) : mval u8V (.int .u8 0) o = .int .u8 ((o.getD 0).toNat : Int) := by cases o <;> rfl
theorem QS.look8BOk {l : WL} {x y : Operand} {t K e : TypeId} {b : Nat} {k : UInt32} (hx : opv M x = some (.map (some b))) (hy : opv M y = some (.int .u32 k.toNat)) (hm : MapIn F.blk b u8V l)
    (ht : P.underlying t = some (.map K e)) (hK : P.underlying K = some (.int .u32)) (hz : ∀ w, (zeroValue e).run P w = .ok (.int .u8 0) w) : QS P N F L M ⟨dst, .lookup t x y true, ty, pos, after, g⟩ (.tuple #[.int .u8 ((mget l k).getD 0).toNat, .bool (mget l k).isSome]) := by
  have h := QS.lookBOk (P := P) (N := N) (F := F) (L := L) (M := M) (dst := dst) (ty := ty) (pos := pos) (after := after) (g := g) hx hy hm ht hK hz
  rw [mval_u8] at h; exact h
theorem Tr.callOV {ι : Type} (φ : ι → Value) (Lo : List Ent) (Ls : ι → List Ent) {ok : ι → Prop} {f : FuncId} {fx : Operand} {xs : List Operand} {vs : List Value} {ts : Array TypeId} {R : List Ent} {dd : World → Nat} (hf : opv M fx = some (.func (.func f) #[] #[])) (hx : opvs M xs = some vs)
    (he : ∀ (args : Array Value) (w : World), (callFunc f args).run P w = .ok (.enter f args) w) (hs : Split L Lo R) (hdd : ∀ w, HpOK F L w → F.dr ≤ dd w)
    (hc : ∀ w, HpOK F L w → Calls P f vs.toArray w fun e w' => ∃ i, e = .returned (φ i) ∧ Upd (dd w) w w' (blks Lo) (Ls i) ∧ ok i) (hd : Nat.ble (d + 1) N = true)
    (K : ∀ i, ok i → Tr N F (Ls i ++ R) ((d, φ i) :: M) (wpList P ops Q rest)) :
    Tr N F L M (wpList P ops Q (⟨some d, .call { callee := .value fx, args := xs.toArray, argTypes := ts }, ty, pos, after, none⟩ :: rest)) := by
  intro a w ha hw
  refine wpList_plain rfl fun K' hK => ?_
  have hr : (execOp a.eval ⟨some d, .call { callee := .value fx, args := xs.toArray, argTypes := ts }, ty, pos, after, none⟩).run P w = .ok (.enter f vs.toArray) w := by
    have := ha.evals hx
    simp [execOp, resolve, Deferred.ofValue, ha.eval hf, invoke, he, this]
  unfold Oper.wp
  rw [hr]
  refine (hc w hw).mono fun e w' ⟨i, h1, h2, h3⟩ => ?_
  subst h1
  exact hK _ _ (K i h3 _ _ (ha.put (Nat.le_of_ble_eq_true hd)) ((hw.perm hs.perm.symm).updated (hdd w hw) h2))
/-- A change that leaves more of one's own alone. -/
theorem Upd.frame {dr : Nat} {w w' : World} {Lo Ls R : List Ent} (h : OwnAt w (Lo ++ R)) (u : Upd dr w w' (blks Lo) Ls) : Upd dr w w' (blks (Lo ++ R)) (Ls ++ R) := by
  have hb : blks (Lo ++ R) = blks Lo ++ blks R := List.filterMap_append
  have hb' : blks (Ls ++ R) = blks Ls ++ blks R := List.filterMap_append
  have hnd := List.nodup_append.1 (hb ▸ h.nodup)
  have notR : ∀ b ∈ blks R, b ∉ blks Lo := fun b hr hl => hnd.2.2 b hl b hr rfl
  have ltR : ∀ b ∈ blks R, b < w.heap.size := fun b hr => h.lt b (by rw [hb]; exact List.mem_append_right _ hr)
  refine ⟨u.os, u.tape, u.output, u.size, u.dr, fun k hk hn => u.block k hk (fun hm => hn (by rw [hb]; exact List.mem_append_left _ hm)), fun e he => ?_, ?_, fun b m => ?_, fun b m => ?_⟩
  · rcases List.mem_append.1 he with he | he
    · exact u.ent e he
    · have hh := h.ent e (List.mem_append_right _ he)
      unfold Ent.holds at *
      cases hk : e.blk with
      | none => rw [hk] at hh; exact hh
      | some b =>
        rw [hk] at hh
        simp only [Option.bind_some] at *
        have hm : b ∈ blks R := List.mem_filterMap.2 ⟨e, he, hk⟩
        rw [u.block b (ltR b hm) (notR b hm)]; exact hh
  · rw [hb', List.nodup_append]
    refine ⟨u.nodup, hnd.2.1, fun a ha b hr e => ?_⟩
    subst e
    rcases u.own a ha with m | m
    · exact notR a hr m
    · have := ltR a hr; omega
  · rw [hb'] at m
    rcases List.mem_append.1 m with m | m
    · exact u.lt b m
    · exact Nat.lt_of_lt_of_le (ltR b m) u.size
  · rw [hb'] at m
    rcases List.mem_append.1 m with m | m
    · rcases u.own b m with q | q
      · exact .inl (by rw [hb]; exact List.mem_append_left _ q)
      · exact .inr q
    · exact .inl (by rw [hb]; exact List.mem_append_right _ m)
end
section
variable {P : Program} {ops : Array Oper} {Q : Exit → Act → World → Prop} {N : Nat} {F : Bg} {L : List Ent} {M : Fr} {rest : List Oper} {d : Nat}
end
structure MemAt (h : Hp) (bM bm : Nat) (VR : Value) (rs : List RegV) : Prop where
  cells : CellsIn h bM [VR, .map (some bm)]
  regs : Sl h encReg rs VR
  data : RegIn h rs
theorem MemAt.mono {h h' : Hp} {bM bm : Nat} {VR : Value} {rs : List RegV} (m : MemAt h bM bm VR rs) (hh : Hp.le h h') : MemAt h' bM bm VR rs := ⟨m.cells.mono hh, m.regs.mono hh, m.data.mono hh⟩
theorem zeroReg_in (h : Hp) : Sl h encU8 zeroReg.data (.slice zeroReg.dp zeroReg.data.length zeroReg.dc) := Sl.nil _ _
theorem MemAt.fnd {h : Hp} {bM bm : Nat} {VR : Value} {rs : List RegV} (m : MemAt h bM bm VR rs) (a : UInt32) : Sl h encU8 (fndR rs a).data (.slice (fndR rs a).dp (fndR rs a).data.length (fndR rs a).dc) := by
  unfold fndR
  split
  · exact zeroReg_in h
  · rename_i hf
    have hb := idxP_ge (inG a) rs 0 (by unfold fndI at hf; omega)
    exact m.data _ (mem_getD (by unfold fndI; omega))
/-- The rows of the regions' bytes. -/
def dRowR (U : TypeId) (r : RegV) : Ent := rowE (.slice r.dp r.data.length r.dc) U encU8 r.data
def regEnts (U : TypeId) (rs : List RegV) : List Ent := rs.reverse.map (dRowR U)
theorem regEnts_snoc (U : TypeId) (rs : List RegV) (r : RegV) : regEnts U (rs ++ [r]) = dRowR U r :: regEnts U rs := by simp [regEnts]
theorem regEnts_mem {U : TypeId} {rs : List RegV} {r : RegV} (h : r ∈ rs) : dRowR U r ∈ regEnts U rs := List.mem_map.2 ⟨r, List.mem_reverse.2 h, rfl⟩
theorem Pick.skip {e : Ent} {L L' : List Ent} (h : Pick L L') : Pick (e :: L) L' := by
  induction h with
  | nil => exact .nil _
  | cons hd _ ih => exact .cons (.there _ hd) ih
theorem memAt_of {h : Hp} {bM bm : Nat} {VR : Value} {T T2 U : TypeId} {rs : List RegV} {Ls : List Ent} (k : ∀ e ∈ Ls, e.ok (e.blk.bind h)) (h1 : cellE bM [VR, .map (some bm)] T ∈ Ls) (h2 : rowE VR T2 encReg rs ∈ Ls) (h3 : ∀ e ∈ regEnts U rs, e ∈ Ls) : MemAt h bM bm VR rs :=
  ⟨cellE.cellsInL k h1, RowOK.sl (k _ h2), fun r hr => RowOK.sl (k _ (h3 _ (regEnts_mem hr)))⟩
def mapR (l : List SecV) (rs : List RegV) (a : UInt32) (n : Int) : RegV := if restA l a < n then zeroReg else fndR rs a
def mapE_ (l : List SecV) (a : UInt32) (n : Int) : Int := if restA l a < n then 11 else 0
section
variable {l : List SecV} {rs : List RegV} {a : UInt32} {n : Int} {w : WrF}
theorem MemOK.mapd (h : MemOK l rs) (hn : 1 ≤ n) : restA l a < n ↔ (fndI rs a < 0 ∨ ((fndR rs a).org : Int) + (fndR rs a).data.length - a.toNat < n) := by
  by_cases hf : fndI rs a < 0
  · have := (h.none hf).2
    exact ⟨fun _ => .inl hf, fun _ => by omega⟩
  · rw [h.rest hf]
    exact ⟨.inr, fun q => q.elim (fun q => absurd q hf) id⟩
theorem MemOK.mapd_ok (h : MemOK l rs) (hn : 1 ≤ n) (hq : ¬ restA l a < n) : ¬ fndI rs a < 0 ∧ mapR l rs a n = fndR rs a ∧ mapE_ l a n = 0 ∧ (fndR rs a).org ≤ a.toNat ∧ a.toNat ≤ (fndR rs a).org + (fndR rs a).data.length ∧ (fndR rs a).org + (fndR rs a).data.length ≤ 4294967295 := by
  rw [h.mapd hn] at hq
  have hf : ¬ fndI rs a < 0 := fun q => hq (.inl q)
  have hq2 : ¬ restA l a < n := by rw [h.mapd hn]; exact hq
  obtain ⟨_, _, _, h1, h2⟩ := h.reg hf
  have := h.top hf
  exact ⟨hf, by unfold mapR; rw [if_neg hq2], by unfold mapE_; rw [if_neg hq2], h1, by omega, this.1⟩
theorem MemOK.pres6 {wl : WL} (h : MemOK l rs) (hf : ¬ fndI rs a < 0) : presR (fndR rs a) wl a 6 = bytesA l (mread wl) a (min 6 (restA l a)).toNat := by
  have hr := h.rest hf
  obtain ⟨_, _, _, h1, h2⟩ := h.reg hf
  rw [← h.pres hf (n := (min 6 (restA l a)).toNat) (by omega)]
  unfold presR
  congr 1
  rw [List.take_eq_take_iff, List.length_drop]
  omega
theorem widP_iff : widP n = true ↔ n = 1 ∨ n = 2 ∨ n = 4 := by unfold widP; exact decide_eq_true_iff
theorem widP_rng (h : widP n = true) : 1 ≤ n ∧ n ≤ 4 := by have := widP_iff.1 h; omega
theorem load_1 (h : widP n = false) : loadA l w a n = (0, 2) := by unfold loadA; rw [if_pos h]
theorem load_2 (h : ¬ widP n = false) (h2 : restA l a < n) : loadA l w a n = (0, 11) := by unfold loadA; rw [if_neg h, if_pos h2]
theorem load_3 (h : ¬ widP n = false) (h2 : ¬ restA l a < n) : loadA l w a n = (leP (bytesA l w a n.toNat), 0) := by unfold loadA; rw [if_neg h, if_neg h2]
theorem store_1 {x : UInt32} (h : widP n = false) : storeA l w a n x = (w, 2) := by unfold storeA; rw [if_pos h]
theorem store_2 {x : UInt32} (h : ¬ widP n = false) (h2 : restA l a < n) : storeA l w a n x = (w, 11) := by unfold storeA; rw [if_neg h, if_pos h2]
theorem store_3 {x : UInt32} (h : ¬ widP n = false) (h2 : ¬ restA l a < n) (h3 : wrA l a = false) : storeA l w a n x = (w, 12) := by unfold storeA; rw [if_neg h, if_neg h2, if_pos h3]
theorem store_4 {x : UInt32} (h : ¬ widP n = false) (h2 : ¬ restA l a < n) (h3 : ¬ wrA l a = false) : storeA l w a n x = (putN w a x n.toNat, 0) := by unfold storeA; rw [if_neg h, if_neg h2, if_neg h3]
theorem fetch_1 (h : noReg l a = true) : fetchA l w a = ([], 11) := by unfold fetchA; rw [if_pos h]
theorem fetch_2 (h : ¬ noReg l a = true) (h2 : exA l a = false) : fetchA l w a = ([], 12) := by unfold fetchA; rw [if_neg h, if_pos h2]
theorem fetch_3 (h : ¬ noReg l a = true) (h2 : ¬ exA l a = false) : fetchA l w a = (bytesA l w a (min 6 (restA l a)).toNat, 0) := by unfold fetchA; rw [if_neg h, if_neg h2]
end
structure Rts where
  w : Bool
  x : Bool
  deriving DecidableEq
def encRts : Enc Rts := ⟨2, fun f => [.bool f.w, .bool f.x], fun _ => rfl, fun x v h => by simp at h; rcases h with h | h <;> subst h <;> rfl⟩
theorem rtsEqEnc : EqEnc encRts [.bool, .bool] [0, 1] := by
  intro x y
  refine ⟨fun j o e ho he => ?_, ?_⟩
  · rcases j with _ | _ | j <;> simp at ho he <;> subst ho <;> subst he <;> trivial
  · obtain ⟨a0, a1⟩ := x
    obtain ⟨c0, c1⟩ := y
    rw [Bool.eq_iff_iff]
    simp [eqAt, encRts]
end Go.HL
namespace Go.HL
open Go Go.RowKit Go.Sort
section
variable {P : Program} {N : Nat} {F : Bg} {L : List Ent} {M : Fr} {dst : Option Tmp} {ty : TypeId} {pos : String} {after : Array Edge} {g : Option (Nat × Bool)}
theorem QS.nilCheck {x : Operand} {a : Addr} (hx : opv M x = some (.pointer (some a))) : QS P N F L M ⟨dst, .nilCheck x, ty, pos, after, g⟩ (.pointer (some a)) :=
  QS.of_run fun A w ha _ => by simp [execOp, ha.eval hx]
end
/-- The rows' lengths are those of the slice. -/
theorem rowE.len {α β : Type} {V : Value} {T T' : TypeId} {E : Enc α} {G : Enc β} {l : List α} {l' : List β} {w w' : World} (h : (rowE V T E l).holds w) (h' : (rowE V T' G l').holds w') : l'.length = l.length := by
  obtain ⟨a, c, e, _⟩ := (rowE.sl h).shape
  obtain ⟨a', c', e', _⟩ := (rowE.sl h').shape
  rw [e] at e'
  injection e' with _ e2
  exact e2.symm
theorem HpOK.own {F : Bg} {L Lo R : List Ent} {w : World} (h : HpOK F L w) (hs : Split L Lo R) : OwnAt w Lo := (h.perm hs.perm.symm).ownAt.left
theorem OwnAt.row {α : Type} {V : Value} {T : TypeId} {E : Enc α} {l : List α} {L : List Ent} {w : World} (h : OwnAt w L) (hm : rowE V T E l ∈ L) : (rowE V T E l).holds w := h.ent _ hm
section
variable {d : Array UInt32} {a b limit : Nat} {wb wp : Bool}
end
end Go.HL
namespace Go.Proofs
open Go.Shelf
def Try.mclone_ren : Go.Shelf.Ren := ⟨fun | 5 => 58 | 7 => 68 | n => n, fun | 23 => 31 | 25 => 22 | 3 => 5 | 4 => 4 | 20 => 20 | n => n, fun | n => n⟩
theorem Try.mclone : Go.Proofs.SlLaysW.n5 Try.prog Try.mclone_ren := {
  mixed := by kernel_rfl
  f5 := ⟨Try.f58.name, by decide, Try.func58.trans (congrArg some (by kernel_rfl))⟩
  f7 := Try.func68.trans (congrArg some (by kernel_rfl))
  t4 := Try.underlying4
  a4 := Try.isAgg4
  z4 := Try.sizeOf4
  v4 := Try.zeroValue4
  t20 := Try.underlying20
  a20 := Try.isAgg20
  z20 := Try.sizeOf20
  v20 := Try.zeroValue20
  t23 := Try.underlying31
  a23 := Try.isAgg31
  z23 := Try.sizeOf31
  v23 := Try.zeroValue31 }
end Go.Proofs
namespace Go.Proofs.Ytpeaodkfbjenpaa
open Go Go.HL Go.RowKit
theorem mclone_any (b : Nat) (wl : WL) (w : World) (hW : MapIn (hp w) b u8V wl) : Calls Try.prog 58 #[.map (some b)] w (fun e w' => ∃ b' : Nat, e = .returned (.map (some b')) ∧ Ext w w' ∧ NewEnts w w' [mapE b' u8V wl] ∧ True) := by
 obtain ⟨es, ck, hb, hm⟩ := hW
 refine (AnyW.maps_Clone Try.mclone b es ck w hb).mono fun e w' ⟨h1, h2⟩ => ?_
 subst h1 h2
 refine ⟨_, rfl, ⟨(Below.refl _ _).alloc (Nat.le_refl _) _, Nat.le_refl _⟩, ⟨fun e he => ?_, by simp [blks, mapE], fun x hx => ?_, fun x hx => ?_⟩, trivial⟩
 ·obtain rfl := List.mem_singleton.1 he
  exact ⟨es, ck, World.alloc_heap_new _ _, hm⟩
 ·simp only [blks, mapE, List.filterMap_cons, List.filterMap_nil, List.mem_singleton] at hx
  subst hx; simp
 ·simp only [blks, mapE, List.filterMap_cons, List.filterMap_nil, List.mem_singleton] at hx
  omega
set_option maxRecDepth 100000 in
set_option maxHeartbeats 2000000 in
theorem mmade_any (bM bm : Nat) (VR : Value) (w : World) (hC : CellsIn (hp w) bM [VR, .map (some bm)]) :
  Calls Try.prog 38 #[.pointer (some ⟨bM, 0, none⟩)] w (fun e w' => e = .returned (.bool true) ∧ Ext w w') := by
 have hC' : CellsIn (Bg.of w).blk bM [VR, .map (some bm)] := hC
 refine enter Try.func38 rfl Try.ntmps38 rfl ?_
 refine Tr.seq (Tr.region ?_)
 refine Tr.q (QS.assign rfl) rfl ?_
 refine Tr.nil (Tr.thenN (Tr.seq (Tr.region ?_)))
 refine Tr.q (QS.move rfl) rfl ?_
 refine Tr.q (QS.neqPN rfl rfl Try.underlying23 rfl) rfl ?_
 refine Tr.q (QS.move rfl) rfl ?_
 apply Tr.andP
 ·exact (rfl : _ = (6, 5, 11))
 ·exact rfl
 ·intro hT1; have hT1' := hT1
  try simp only [bs] at hT1'
  refine Tr.gq rfl rfl hT1 (QS.move rfl) rfl ?_
  refine Tr.gq rfl rfl hT1 (QS.nilCheck rfl) rfl ?_
  refine Tr.gq rfl rfl hT1 (QS.fieldAddr (off := 1) (ft := 31) rfl Try.underlying33 rfl rfl Try.sizeOf31 (by decide)) rfl ?_
  refine Tr.gq rfl rfl hT1 (QS.loadCF rfl (by assumption) Try.isAgg31 (by rfl)) rfl ?_
  refine Tr.gq rfl rfl hT1 (QS.neqMN rfl rfl Try.underlying31 rfl) rfl ?_
  refine Tr.q (QS.pickT rfl hT1 rfl) rfl ?_
  refine Tr.nil (Tr.thenN ?_)
  exact Tr.endX (Sub.cons rfl (Sub.dropN 6 (by kernel_rfl) rfl))
 ·intro hF1
  refine Tr.gskip rfl rfl hF1 rfl ?_
  refine Tr.gskip rfl rfl hF1 rfl ?_
  refine Tr.gskip rfl rfl hF1 rfl ?_
  refine Tr.gskip rfl rfl hF1 rfl ?_
  refine Tr.gskip rfl rfl hF1 rfl ?_
  refine Tr.q (QS.pickF rfl hF1 rfl) rfl ?_
  refine Tr.nil (Tr.thenN ?_)
  exact Tr.endX (Sub.cons rfl (Sub.dropN 6 (by kernel_rfl) rfl))
 refine Tr.q (QS.assign rfl) rfl ?_
 refine Tr.nil (Tr.thenN (Tr.ret ?_))
 refine Tr.ret1 Try.results38 rfl (fun w' hw => ?_)
 exact ⟨rfl, hw.below (Bg.le.refl _)⟩
set_option maxRecDepth 100000 in
set_option maxHeartbeats 2000000 in
theorem mmade_nil (w : World) :
  Calls Try.prog 38 #[.pointer none] w (fun e w' => e = .returned (.bool false) ∧ Ext w w') := by
 refine enter Try.func38 rfl Try.ntmps38 rfl ?_
 refine Tr.seq (Tr.region ?_)
 refine Tr.q (QS.assign rfl) rfl ?_
 refine Tr.nil (Tr.thenN (Tr.seq (Tr.region ?_)))
 refine Tr.q (QS.move rfl) rfl ?_
 refine Tr.q (QS.neqPN rfl rfl Try.underlying23 rfl) rfl ?_
 refine Tr.q (QS.move rfl) rfl ?_
 apply Tr.andP (y := true)
 ·exact (rfl : _ = (6, 5, 11))
 ·exact rfl
 ·intro hT1; have hT1' := hT1
  try simp only [bs] at hT1'
  cases hT1
 ·intro hF1
  refine Tr.gskip rfl rfl hF1 rfl ?_
  refine Tr.gskip rfl rfl hF1 rfl ?_
  refine Tr.gskip rfl rfl hF1 rfl ?_
  refine Tr.gskip rfl rfl hF1 rfl ?_
  refine Tr.gskip rfl rfl hF1 rfl ?_
  refine Tr.q (QS.pickF rfl hF1 rfl) rfl ?_
  refine Tr.nil (Tr.thenN ?_)
  exact Tr.endX (Sub.cons rfl (Sub.dropN 6 (by kernel_rfl) rfl))
 refine Tr.q (QS.assign rfl) rfl ?_
 refine Tr.nil (Tr.thenN (Tr.ret ?_))
 refine Tr.ret1 Try.results38 rfl (fun w' hw => ?_)
 exact ⟨rfl, hw.below (Bg.le.refl _)⟩
set_option maxRecDepth 100000 in
set_option maxHeartbeats 2000000 in
theorem mvalid_any (n : Int) (w : World) :
  Calls Try.prog 39 #[.int .i64 n] w (fun e w' => e = .returned (.bool (widP n)) ∧ Ext w w') := by
 refine enter Try.func39 rfl Try.ntmps39 rfl ?_
 refine Tr.seq (Tr.region ?_)
 refine Tr.q (QS.assign rfl) rfl ?_
 refine Tr.nil (Tr.thenN (Tr.seq (Tr.region ?_)))
 refine Tr.q (QS.move rfl) rfl ?_
 refine Tr.q (QS.eql rfl rfl) rfl ?_
 refine Tr.q (QS.move rfl) rfl ?_
 apply Tr.orP
 ·exact (rfl : _ = (3, 5, 8))
 ·exact rfl
 ·intro hF1; have hF1' := hF1
  try simp only [bs] at hF1'
  refine Tr.gq rfl rfl hF1 (QS.move rfl) rfl ?_
  refine Tr.gq rfl rfl hF1 (QS.eql rfl rfl) rfl ?_
  refine Tr.q (QS.pickF rfl hF1 rfl) rfl ?_
  refine Tr.nil (Tr.thenN ?_)
  exact Tr.endX (Sub.cons rfl (Sub.dropN 3 (by kernel_rfl) rfl))
 ·intro hT1
  refine Tr.gskip rfl rfl hT1 rfl ?_
  refine Tr.gskip rfl rfl hT1 rfl ?_
  refine Tr.q (QS.pickT rfl hT1 rfl) rfl ?_
  refine Tr.nil (Tr.thenN ?_)
  exact Tr.endX (Sub.cons rfl (Sub.dropN 3 (by kernel_rfl) rfl))
 refine Tr.q (QS.move rfl) rfl ?_
 apply Tr.orP
 ·exact (rfl : _ = (3, 9, 12))
 ·exact rfl
 ·intro hF2; have hF2' := hF2
  try simp only [bs] at hF2'
  refine Tr.gq rfl rfl hF2 (QS.move rfl) rfl ?_
  refine Tr.gq rfl rfl hF2 (QS.eql rfl rfl) rfl ?_
  refine Tr.q (QS.pickF rfl hF2 rfl) rfl ?_
  refine Tr.nil (Tr.thenN ?_)
  exact Tr.endX (Sub.cons rfl (Sub.dropN 3 (by kernel_rfl) rfl))
 ·intro hT2
  refine Tr.gskip rfl rfl hT2 rfl ?_
  refine Tr.gskip rfl rfl hT2 rfl ?_
  refine Tr.q (QS.pickT rfl hT2 rfl) rfl ?_
  refine Tr.nil (Tr.thenN ?_)
  exact Tr.endX (Sub.cons rfl (Sub.dropN 3 (by kernel_rfl) rfl))
 refine Tr.q (QS.assign rfl) rfl ?_
 refine Tr.nil (Tr.thenN (Tr.ret ?_))
 refine Tr.ret1 Try.results39 rfl (fun w' hw => ?_)
 exact ⟨by unfold widP; congr 2; rw [Bool.eq_iff_iff]; simp [or_assoc], hw.below (Bg.le.refl _)⟩
set_option maxRecDepth 100000 in
set_option maxHeartbeats 4000000 in
theorem mfind_any (bM bm : Nat) (VR : Value) (rs : List RegV) (l : List SecV) (a : UInt32) (w : World) (hM : MemAt (hp w) bM bm VR rs) (hO : MemOK l rs) :
  Calls Try.prog 59 #[.pointer (some ⟨bM, 0, none⟩), .int .u32 a.toNat] w (fun e w' => e = .returned (.tuple #[.agg (encReg.enc (fndR rs a)).toArray, .bool (decide (¬ fndI rs a < 0))]) ∧ Ext w w') := by
 have hC' : CellsIn (Bg.of w).blk bM [VR, .map (some bm)] := hM.cells
 have hR' : Sl (Bg.of w).blk encReg rs VR := hM.regs
 have hM' : MemAt (Bg.of w).blk bM bm VR rs := hM
 have hrl := hO.bounds.1
 refine enter Try.func59 rfl Try.ntmps59 rfl ?_
 refine Tr.seq (Tr.region ?_)
 refine Tr.alloc Try.zeroValue86 rfl rfl (fun b1 => ?_)
 refine Tr.q (QS.assign rfl) rfl ?_
 refine Tr.nil (Tr.thenN (Tr.seq (Tr.seq (Tr.region ?_))))
 refine Tr.q (QS.move rfl) rfl ?_
 refine Tr.q (QS.nilCheck rfl) rfl ?_
 refine Tr.q (QS.fieldAddr (off := 0) (ft := 30) rfl Try.underlying33 rfl rfl Try.sizeOf30 (by decide)) rfl ?_
 refine Tr.q (QS.loadCF rfl (by assumption) Try.isAgg30 (by rfl)) rfl ?_
 refine Tr.q (QS.len rfl (by assumption) Try.underlying30) rfl ?_
 refine Tr.q (QS.move rfl) rfl ?_
 refine Tr.nil (Tr.thenN (Tr.block ?_))
 refine Tr.loop (ι := Nat) (fun k => k ≤ rs.length ∧ idxP (inG a) k (rs.drop k) = idxP (inG a) 0 rs) (fun _ => _) (fun k => [cellE b1 [.int .u64 0, .slice none 0 0, .bool false, .bool false] 86]) (fun k => [(14, .int .i64 (k : Nat))]) (fun k => rs.length - k) 0 ⟨Nat.zero_le _, rfl⟩ (.cons (by first | rfl | exact lookI rfl (by omega) | exact lookI rfl (by simp) | exact lookB rfl (by simp)) Front.nil) (by repeat' constructor) rfl (fun k hi m hm => ?_)
 replace hi : k ≤ rs.length ∧ idxP (inG a) k (rs.drop k) = idxP (inG a) 0 rs := hi
 replace hm : m = rs.length - k := hm
 change Tr _ _ [cellE b1 [.int .u64 0, .slice none 0 0, .bool false, .bool false] 86] ([(14, .int .i64 (k : Nat))] ++ _) _
 obtain ⟨hk1, hk2⟩ := hi
 refine Tr.seq (Tr.region ?_)
 refine Tr.q (QS.lss rfl rfl) rfl ?_
 refine Tr.nil (Tr.thenN (Tr.seq ?_))
 refine Tr.cond rfl (fun h2 => ?_) (fun h2 => ?_)
 ·try simp only [bs] at h2
  refine Tr.skip (Tr.thenN (Tr.seq (Tr.block (Tr.seq ?_))))
  have hbk := hO.bounds.2 (rs.getD k default) (mem_getD (by omega))
  have hal := a.toNat_lt
  refine Tr.region ?_
  refine Tr.q (QS.idxN rfl rfl (by assumption) Try.underlying30 Try.sizeOf86 (by rfl) (by omega)) rfl ?_
  refine Tr.q (QS.elA rfl (by assumption) Try.isAgg86 Try.sizeOf86 (by rfl) (by omega)) rfl ?_
  refine Tr.alloc Try.zeroValue86 rfl rfl (fun b3 => ?_)
  refine Tr.storeW rfl rfl Try.sizeOf86 (by repeat constructor) (by rfl) (by rfl) (by first | exact List.all_eq_true.1 rfl | exact Enc.one _ _ | exact Enc.one encReg _) rfl ?_
  refine Tr.nil (Tr.thenN (Tr.seq (Tr.region ?_)))
  refine Tr.q (QS.move rfl) rfl ?_
  refine Tr.q (QS.cvt32toU rfl Try.underlying22 Try.underlying81) rfl ?_
  refine Tr.q (QS.assign rfl) rfl ?_
  refine Tr.nil (Tr.thenN (Tr.seq (Tr.region ?_)))
  refine Tr.q (QS.move rfl) rfl ?_
  refine Tr.q (QS.fieldAddr (off := 0) (ft := 81) rfl Try.underlying86 rfl rfl Try.sizeOf81 (by decide)) rfl ?_
  refine Tr.q (QS.lV rfl Try.isAgg81) rfl ?_
  refine Tr.q (QS.geq rfl rfl) rfl ?_
  refine Tr.q (QS.move rfl) rfl ?_
  apply Tr.andP
  ·exact (rfl : _ = (10, 24, 34))
  ·exact rfl
  ·intro hT4; have hT4' := hT4
   try simp only [bs] at hT4'
   refine Tr.gq rfl rfl hT4 (QS.move rfl) rfl ?_
   refine Tr.gq rfl rfl hT4 (QS.fieldAddr (off := 0) (ft := 81) rfl Try.underlying86 rfl rfl Try.sizeOf81 (by decide)) rfl ?_
   refine Tr.gq rfl rfl hT4 (QS.lV rfl Try.isAgg81) rfl ?_
   refine Tr.gq rfl rfl hT4 (QS.fieldAddr (off := 1) (ft := 78) rfl Try.underlying86 rfl rfl Try.sizeOf78 (by decide)) rfl ?_
   refine Tr.gq rfl rfl hT4 (QS.lV rfl Try.isAgg78) rfl ?_
   refine Tr.gq rfl rfl hT4 (QS.lenNil rfl Try.underlying78) rfl ?_
   refine Tr.gq rfl rfl hT4 (QS.cvtIn rfl Try.underlying3 Try.underlying81 (IntWalk.u64_in _ (by omega))) rfl ?_
   refine Tr.gq rfl rfl hT4 (QS.addU rfl rfl (by omega)) rfl ?_
   refine Tr.gq rfl rfl hT4 (QS.lss rfl rfl) rfl ?_
   refine Tr.q (QS.pickT rfl hT4 rfl) rfl ?_
   refine Tr.nil (Tr.thenN ?_)
   exact Tr.endX (Sub.cons rfl (Sub.dropN 10 (by kernel_rfl) rfl))
  ·intro hF4
   refine Tr.gskip rfl rfl hF4 rfl ?_
   refine Tr.gskip rfl rfl hF4 rfl ?_
   refine Tr.gskip rfl rfl hF4 rfl ?_
   refine Tr.gskip rfl rfl hF4 rfl ?_
   refine Tr.gskip rfl rfl hF4 rfl ?_
   refine Tr.gskip rfl rfl hF4 rfl ?_
   refine Tr.gskip rfl rfl hF4 rfl ?_
   refine Tr.gskip rfl rfl hF4 rfl ?_
   refine Tr.gskip rfl rfl hF4 rfl ?_
   refine Tr.q (QS.pickF rfl hF4 rfl) rfl ?_
   refine Tr.nil (Tr.thenN ?_)
   exact Tr.endX (Sub.cons rfl (Sub.dropN 10 (by kernel_rfl) rfl))
  refine Tr.nil (Tr.thenN ?_)
  refine Tr.cond rfl (fun h5 => ?_) (fun h5 => ?_)
  ·try simp only [bs] at h5
   refine Tr.seq (Tr.region ?_)
   refine Tr.q (QS.lW rfl Try.isAgg86 Try.sizeOf86) rfl ?_
   refine Tr.storeW rfl rfl Try.sizeOf86 (by repeat constructor) (by rfl) (by rfl) (by first | exact List.all_eq_true.1 rfl | exact Enc.one _ _ | exact Enc.one encReg _) rfl ?_
   refine Tr.q (QS.assign rfl) rfl ?_
   refine Tr.nil (Tr.thenN (Tr.ret ?_))
   refine Tr.inR ?_
   refine Tr.thenR (Tr.thenR ?_)
   refine Tr.inR ?_
   refine Tr.thenR ?_
   refine Tr.retC2 Try.results59 rfl rfl (by repeat constructor) Try.isAgg86 Try.sizeOf86 (by rfl) (fun w' hw => ?_)
   have hyes : inG a (rs.getD k default) = true := by unfold inG; rw [Bool.and_eq_true, decide_eq_true_eq, decide_eq_true_eq]; omega
   have hix : fndI rs a = (k : Int) := by unfold fndI; rw [← hk2, drop_cons (k := k) (by omega), idxP, if_pos hyes]
   exact ⟨by unfold fndR; rw [hix, if_neg (by omega), decide_eq_true (by omega)]; rfl, hw.below (Bg.le.refl _)⟩
  ·try simp only [bs] at h5
   refine Tr.skip (Tr.inN (Tr.thenN (Tr.region ?_)))
   refine Tr.q (QS.addI rfl rfl (by omega)) rfl ?_
   refine Tr.q (QS.move rfl) rfl ?_
   refine Tr.nil (Tr.thenN ?_)
   have hne : inG a (rs.getD k default) = false := by unfold inG; rw [Bool.and_eq_false_iff, decide_eq_false_iff_not, decide_eq_false_iff_not]; omega
   apply Tr.again (k + 1)
   ·exact rfl
   ·exact (.cons (by first | rfl | exact lookI rfl (by omega) | exact lookI rfl (by simp) | exact lookB rfl (by simp)) Front.nil)
   ·exact SubX.dropN 16 (by kernel_rfl) rfl
   ·exact (by repeat' constructor)
   ·exact ⟨by omega, by rw [← hk2, drop_cons (k := k) (by omega), idxP, if_neg (by rw [hne]; simp)]⟩
   ·exact (by (try dsimp only); omega)
 ·try simp only [bs] at h2
  refine Tr.exit ?_
  refine Tr.thenE (Tr.thenE (Tr.inHit (Tr.thenN (Tr.seq (Tr.region ?_)))))
  refine Tr.q (QS.build (vs := []) rfl rfl (HLF.built86)) rfl ?_
  refine Tr.storeW rfl rfl Try.sizeOf86 (by repeat constructor) (by rfl) (by rfl) (by first | exact List.all_eq_true.1 rfl | exact Enc.one _ _ | exact Enc.one encReg _) rfl ?_
  refine Tr.q (QS.assign rfl) rfl ?_
  refine Tr.nil (Tr.thenN (Tr.ret ?_))
  refine Tr.retC2 Try.results59 rfl rfl (by repeat constructor) Try.isAgg86 Try.sizeOf86 (by rfl) (fun w' hw => ?_)
  have hix : fndI rs a = -1 := by unfold fndI; rw [← hk2, List.drop_of_length_le (by omega)]; rfl
  exact ⟨by unfold fndR; rw [hix, if_pos (by decide), decide_eq_false (by decide)]; rfl, hw.below (Bg.le.refl _)⟩
set_option maxRecDepth 100000 in
set_option maxHeartbeats 4000000 in
theorem mpres_any (bM bm : Nat) (VR : Value) (r : RegV) (a : UInt32) (n : Nat) (wl : WL) (w : World) (hC : CellsIn (hp w) bM [VR, .map (some bm)]) (hW : MapIn (hp w) bm u8V wl) (hr : Sl (hp w) encU8 r.data (.slice r.dp r.data.length r.dc)) (h1 : r.org ≤ a.toNat) (h2 : a.toNat ≤ r.org + r.data.length) (h3 : r.org + r.data.length ≤ 4294967295) (hn : n ≤ 100) :
  Calls Try.prog 41 #[.pointer (some ⟨bM, 0, none⟩), .agg (encReg.enc r).toArray, .int .u32 a.toNat, .int .i64 (n : Nat)] w (fun e w' => ∃ V', e = .returned V' ∧ Ext w w' ∧ NewRow w w' 5 encU8 (presR r wl a n) V') := by
 have hC' : CellsIn (Bg.of w).blk bM [VR, .map (some bm)] := hC
 have hW' : MapIn (Bg.of w).blk bm u8V wl := hW
 have hr' : Sl (Bg.of w).blk encU8 r.data (.slice r.dp r.data.length r.dc) := hr
 have hal := a.toNat_lt
 refine enter Try.func41 rfl Try.ntmps41 rfl ?_
 refine Tr.seq (Tr.region ?_)
 refine Tr.box rfl rfl rfl (fun b1 => ?_)
 refine Tr.q (QS.assign rfl) rfl ?_
 refine Tr.nil (Tr.thenN (Tr.seq (Tr.region ?_)))
 refine Tr.q (QS.move rfl) rfl ?_
 refine Tr.q (QS.cvt32toU rfl Try.underlying22 Try.underlying81) rfl ?_
 refine Tr.q (QS.fieldAddr (off := 0) (ft := 81) rfl Try.underlying86 rfl rfl Try.sizeOf81 (by decide)) rfl ?_
 refine Tr.q (QS.lV rfl Try.isAgg81) rfl ?_
 refine Tr.q (QS.subU rfl rfl (by omega)) rfl ?_
 refine Tr.q (QS.cvtIn rfl Try.underlying81 Try.underlying3 (IntWalk.i64_in _ (by omega))) rfl ?_
 refine Tr.q (QS.assign rfl) rfl ?_
 refine Tr.nil (Tr.thenN (Tr.seq (Tr.region ?_)))
 refine Tr.q (QS.fieldAddr (off := 1) (ft := 78) rfl Try.underlying86 rfl rfl Try.sizeOf78 (by decide)) rfl ?_
 refine Tr.q (QS.lV rfl Try.isAgg78) rfl ?_
 refine Tr.q (QS.move rfl) rfl ?_
 refine Tr.q (QS.move rfl) rfl ?_
 refine Tr.q (QS.move rfl) rfl ?_
 refine Tr.q (QS.addI rfl rfl (by omega)) rfl ?_
 refine Tr.q (QS.fieldAddr (off := 1) (ft := 78) rfl Try.underlying86 rfl rfl Try.sizeOf78 (by decide)) rfl ?_
 refine Tr.q (QS.lV rfl Try.isAgg78) rfl ?_
 refine Tr.q (QS.len rfl (by assumption) Try.underlying78) rfl ?_
 refine Tr.q (QS.min2 rfl rfl) rfl ?_
 refine Tr.q (QS.slice (lv := some (_, _)) (hv := some (_, _)) rfl (by assumption) rfl rfl Try.underlying78 Try.sizeOf5 (by rfl) (by simp only [loOf, hiOf] <;> first | omega | assumption | (simp only [NatCast.natCast, Int.ofNat_eq_natCast]; omega)) (by simp only [loOf, hiOf] <;> first | omega | assumption | (simp only [NatCast.natCast, Int.ofNat_eq_natCast]; omega)) (by simp only [loOf, hiOf] <;> first | omega | assumption | (simp only [NatCast.natCast, Int.ofNat_eq_natCast]; omega))) rfl ?_
 refine Tr.callRow rfl Try.call33 (fun w hw => clone_u8 ((r.data.take (min (((a.toNat : Int) - r.org) + n) (r.data.length : Int)).toNat).drop ((a.toNat : Int) - r.org).toNat) _ w (Sl.resl (l := ((a.toNat : Int) - r.org).toNat) (h := (min (((a.toNat : Int) - r.org) + n) (r.data.length : Int)).toNat) (hw.slF hr') (by omega) (by omega)) (by simp only [List.length_drop, List.length_take]; omega)) rfl (fun V2 => ?_)
 refine Tr.q (QS.assign rfl) rfl ?_
 refine Tr.nil (Tr.thenN (Tr.seq (Tr.seq ?_)))
 obtain ⟨base, hbase⟩ : ∃ base, base = ((r.data.take (min (((a.toNat : Int) - r.org) + n) (r.data.length : Int)).toNat).drop ((a.toNat : Int) - r.org).toNat) := ⟨_, rfl⟩
 rw [← hbase]
 have hbl : base.length ≤ 100 := by rw [hbase, List.length_drop, List.length_take]; omega
 refine Tr.rowEq (l' := (ovr wl a (base.take 0) ++ base.drop 0)) (by simp [ovr]) ?_
 have hcl : ∀ k, k ≤ base.length → (ovr wl a (base.take k) ++ base.drop k).length = base.length := fun k hk => by rw [List.length_append, ovr_len, List.length_take, List.length_drop]; omega
 refine Tr.region ?_
 refine Tr.q (QS.move rfl) rfl ?_
 refine Tr.q (QS.lenRow (l := (ovr wl a (base.take 0) ++ base.drop 0)) rfl (by repeat constructor) Try.underlying78) rfl ?_
 refine Tr.q (QS.move rfl) rfl ?_
 refine Tr.nil (Tr.thenN (Tr.block ?_))
 have hlen0 := hcl 0 (Nat.zero_le _)
 refine Tr.loop (ι := Nat) (fun k => k ≤ base.length) (fun _ => _) (fun k => [rowE V2 5 encU8 (ovr wl a (base.take k) ++ base.drop k), cellE b1 (encReg.enc r) 86]) (fun k => [(34, .int .i64 (k : Nat)), (33, .int .i64 (base.length : Nat))]) (fun k => base.length - k) 0 (Nat.zero_le _) (.cons (by first | rfl | exact lookI rfl (by omega) | exact lookI rfl (by simp) | exact lookB rfl (by simp)) (.cons (by first | rfl | exact lookI rfl (by omega) | exact lookI rfl (by simp) | exact lookB rfl (by simp)) Front.nil)) (by repeat' constructor) rfl (fun k hi m hm => ?_)
 replace hi : k ≤ base.length := hi
 replace hm : m = base.length - k := hm
 change Tr _ _ [rowE V2 5 encU8 (ovr wl a (base.take k) ++ base.drop k), cellE b1 (encReg.enc r) 86] ([(34, .int .i64 (k : Nat)), (33, .int .i64 (base.length : Nat))] ++ _) _
 refine Tr.seq (Tr.region ?_)
 refine Tr.q (QS.lss rfl rfl) rfl ?_
 refine Tr.nil (Tr.thenN (Tr.seq ?_))
 refine Tr.cond rfl (fun h3 => ?_) (fun h3 => ?_)
 ·try simp only [bs] at h3
  refine Tr.skip (Tr.thenN (Tr.seq (Tr.block (Tr.seq (Tr.region ?_)))))
  refine Tr.q (QS.move rfl) rfl ?_
  refine Tr.q (QS.assign rfl) rfl ?_
  refine Tr.nil (Tr.thenN (Tr.seq (Tr.region ?_)))
  refine Tr.q (QS.move rfl) rfl ?_
  refine Tr.q (QS.nilCheck rfl) rfl ?_
  refine Tr.q (QS.fieldAddr (off := 1) (ft := 31) rfl Try.underlying33 rfl rfl Try.sizeOf31 (by decide)) rfl ?_
  refine Tr.q (QS.loadCF rfl (by assumption) Try.isAgg31 (by rfl)) rfl ?_
  refine Tr.q (QS.move rfl) rfl ?_
  refine Tr.q (QS.move rfl) rfl ?_
  refine Tr.q (QS.cvtTo32 rfl Try.underlying3 Try.underlying22) rfl ?_
  refine Tr.q (QS.add32 rfl rfl) rfl ?_
  refine Tr.q (QS.look8BOk rfl rfl hW' Try.underlying31 Try.underlying22 Try.zeroValue5) rfl ?_
  refine Tr.q (QS.move rfl) rfl ?_
  refine Tr.q (QS.extract rfl rfl) rfl ?_
  refine Tr.q (QS.extract rfl rfl) rfl ?_
  refine Tr.q (QS.assign rfl) rfl ?_
  refine Tr.q (QS.assign rfl) rfl ?_
  refine Tr.nil (Tr.thenN (Tr.seq (Tr.region ?_)))
  refine Tr.q (QS.move rfl) rfl ?_
  refine Tr.nil (Tr.thenN ?_)
  refine Tr.cond rfl (fun h4 => ?_) (fun h4 => ?_)
  ·try simp only [bs] at h4
   have hlen := hcl k (by omega)
   refine Tr.region ?_
   refine Tr.q (QS.move rfl) rfl ?_
   refine Tr.q (QS.move rfl) rfl ?_
   refine Tr.q (QS.move rfl) rfl ?_
   refine Tr.q (QS.idxRowN rfl rfl (by repeat constructor) Try.underlying78 Try.sizeOf5 (by rfl) (by omega)) rfl ?_
   refine Tr.storeEl (l := (ovr wl a (base.take k) ++ base.drop k)) (i := k) (((mget wl (a + u32 (k : Int))).getD 0)) rfl rfl Try.sizeOf5 (by repeat constructor) (by (try simp only [List.length_set]); omega) (by rfl) rfl ?_
   have hls5 : (List.set (ovr wl a (base.take k) ++ base.drop k) (k) (((mget wl (a + u32 (k : Int))).getD 0))).length = ((ovr wl a (base.take k) ++ base.drop k)).length := List.length_set
   refine Tr.nil (Tr.inN (Tr.thenN (Tr.region ?_)))
   refine Tr.q (QS.addI rfl rfl (by omega)) rfl ?_
   refine Tr.q (QS.move rfl) rfl ?_
   refine Tr.nil (Tr.thenN ?_)
   obtain ⟨x, hx⟩ := Option.isSome_iff_exists.1 (show (mget wl (a + u32 (k : Int))).isSome = true by assumption)
   rw [hx, Option.getD_some, ovr_yes (by omega) (by rw [← u32_nat]; exact hx)]
   apply Tr.again (k + 1)
   ·exact rfl
   ·exact (.cons (by first | rfl | exact lookI rfl (by omega) | exact lookI rfl (by simp) | exact lookB rfl (by simp)) (.cons (by first | rfl | exact lookI rfl (by omega) | exact lookI rfl (by simp) | exact lookB rfl (by simp)) Front.nil))
   ·exact SubX.dropN 26 (by kernel_rfl) rfl
   ·exact (by repeat' constructor)
   ·exact (by show k + 1 ≤ _; omega)
   ·exact (by (try dsimp only); omega)
  ·try simp only [bs] at h4
   refine Tr.skip (Tr.inN (Tr.thenN (Tr.region ?_)))
   refine Tr.q (QS.addI rfl rfl (by omega)) rfl ?_
   refine Tr.q (QS.move rfl) rfl ?_
   refine Tr.nil (Tr.thenN ?_)
   rw [ovr_no (by omega) (by rw [← u32_nat]; exact Option.isNone_iff_eq_none.1 (by simp_all))]
   apply Tr.again (k + 1)
   ·exact rfl
   ·exact (.cons (by first | rfl | exact lookI rfl (by omega) | exact lookI rfl (by simp) | exact lookB rfl (by simp)) (.cons (by first | rfl | exact lookI rfl (by omega) | exact lookI rfl (by simp) | exact lookB rfl (by simp)) Front.nil))
   ·exact SubX.dropN 22 (by kernel_rfl) rfl
   ·exact (by repeat' constructor)
   ·exact (by show k + 1 ≤ _; omega)
   ·exact (by (try dsimp only); omega)
 ·try simp only [bs] at h3
  refine Tr.exit ?_
  refine Tr.thenE (Tr.thenE (Tr.inHit (Tr.thenN (Tr.seq (Tr.region ?_)))))
  refine Tr.q (QS.move rfl) rfl ?_
  refine Tr.q (QS.assign rfl) rfl ?_
  refine Tr.nil (Tr.thenN (Tr.ret ?_))
  refine Tr.ret1 Try.results41 rfl (fun w' hw => ?_)
  have hfin : (ovr wl a (base.take k) ++ base.drop k) = presR r wl a n := by
   rw [List.take_of_length_le (by omega), List.drop_of_length_le (by omega), List.append_nil, hbase]
   unfold presR
   congr 1
   rw [List.drop_take, show ((a.toNat : Int) - r.org).toNat = a.toNat - r.org by omega, List.take_eq_take_iff, List.length_drop]
   omega
  rw [hfin] at hw
  exact ⟨_, rfl, hw.below (Bg.le.refl _), hw.new (.head _)⟩
set_option maxRecDepth 100000 in
set_option maxHeartbeats 4000000 in
theorem mmapped_any (bM bm : Nat) (VR : Value) (rs : List RegV) (l : List SecV) (a : UInt32) (n : Int) (w : World) (hM : MemAt (hp w) bM bm VR rs) (hO : MemOK l rs) (hn : 1 ≤ n ∧ n ≤ 100) :
  Calls Try.prog 40 #[.pointer (some ⟨bM, 0, none⟩), .int .u32 a.toNat, .int .i64 n] w (fun e w' => e = .returned (.tuple #[.agg (encReg.enc (mapR l rs a n)).toArray, .int .i64 (mapE_ l a n)]) ∧ Ext w w') := by
 have hC' : CellsIn (Bg.of w).blk bM [VR, .map (some bm)] := hM.cells
 have hR' : Sl (Bg.of w).blk encReg rs VR := hM.regs
 have hM' : MemAt (Bg.of w).blk bM bm VR rs := hM
 have hrl := hO.bounds.1
 have hal := a.toNat_lt
 refine enter Try.func40 rfl Try.ntmps40 rfl ?_
 refine Tr.seq (Tr.region ?_)
 refine Tr.alloc Try.zeroValue86 rfl rfl (fun b1 => ?_)
 refine Tr.q (QS.assign rfl) rfl ?_
 refine Tr.nil (Tr.thenN (Tr.seq (Tr.region ?_)))
 refine Tr.q (QS.move rfl) rfl ?_
 refine Tr.q (QS.move rfl) rfl ?_
 refine Tr.q (QS.call rfl Try.call59 (fun w hw => mfind_any bM bm VR rs l a w (hM'.mono hw.bg) hO)) rfl ?_
 refine Tr.q (QS.move rfl) rfl ?_
 refine Tr.q (QS.extract rfl rfl) rfl ?_
 refine Tr.q (QS.extract rfl rfl) rfl ?_
 refine Tr.alloc Try.zeroValue86 rfl rfl (fun b2 => ?_)
 refine Tr.storeW rfl rfl Try.sizeOf86 (by repeat constructor) (by rfl) (by rfl) (by first | exact List.all_eq_true.1 rfl | exact Enc.one _ _ | exact Enc.one encReg _) rfl ?_
 refine Tr.q (QS.assign rfl) rfl ?_
 refine Tr.nil (Tr.thenN (Tr.seq (Tr.seq (Tr.region ?_))))
 refine Tr.q (QS.move rfl) rfl ?_
 refine Tr.q (QS.not rfl) rfl ?_
 refine Tr.q (QS.move rfl) rfl ?_
 apply Tr.orP
 ·exact (rfl : _ = (14, 18, 32))
 ·exact rfl
 ·intro hF3; have hF3' := hF3
  try simp only [bs] at hF3'
  have hf : ¬ fndI rs a < 0 := by simp_all
  obtain ⟨_, _, _, hg1, hg2⟩ := hO.reg hf
  have hg3 := hO.top hf
  refine Tr.gq rfl rfl hF3 (QS.move rfl) rfl ?_
  refine Tr.gq rfl rfl hF3 (QS.cvtIn rfl Try.underlying3 Try.underlying81 (IntWalk.u64_in _ (by omega))) rfl ?_
  refine Tr.gq rfl rfl hF3 (QS.fieldAddr (off := 0) (ft := 81) rfl Try.underlying86 rfl rfl Try.sizeOf81 (by decide)) rfl ?_
  refine Tr.gq rfl rfl hF3 (QS.lV rfl Try.isAgg81) rfl ?_
  refine Tr.gq rfl rfl hF3 (QS.fieldAddr (off := 1) (ft := 78) rfl Try.underlying86 rfl rfl Try.sizeOf78 (by decide)) rfl ?_
  refine Tr.gq rfl rfl hF3 (QS.lV rfl Try.isAgg78) rfl ?_
  refine Tr.gq rfl rfl hF3 (QS.lenNil rfl Try.underlying78) rfl ?_
  refine Tr.gq rfl rfl hF3 (QS.cvtIn rfl Try.underlying3 Try.underlying81 (IntWalk.u64_in _ (by omega))) rfl ?_
  refine Tr.gq rfl rfl hF3 (QS.addU rfl rfl (by omega)) rfl ?_
  refine Tr.gq rfl rfl hF3 (QS.move rfl) rfl ?_
  refine Tr.gq rfl rfl hF3 (QS.cvt32toU rfl Try.underlying22 Try.underlying81) rfl ?_
  refine Tr.gq rfl rfl hF3 (QS.subU rfl rfl (by omega)) rfl ?_
  refine Tr.gq rfl rfl hF3 (QS.gtr rfl rfl) rfl ?_
  refine Tr.q (QS.pickF rfl hF3 rfl) rfl ?_
  refine Tr.nil (Tr.thenN ?_)
  exact Tr.endX (Sub.cons rfl (Sub.dropN 14 (by kernel_rfl) rfl))
 ·intro hT3
  refine Tr.gskip rfl rfl hT3 rfl ?_
  refine Tr.gskip rfl rfl hT3 rfl ?_
  refine Tr.gskip rfl rfl hT3 rfl ?_
  refine Tr.gskip rfl rfl hT3 rfl ?_
  refine Tr.gskip rfl rfl hT3 rfl ?_
  refine Tr.gskip rfl rfl hT3 rfl ?_
  refine Tr.gskip rfl rfl hT3 rfl ?_
  refine Tr.gskip rfl rfl hT3 rfl ?_
  refine Tr.gskip rfl rfl hT3 rfl ?_
  refine Tr.gskip rfl rfl hT3 rfl ?_
  refine Tr.gskip rfl rfl hT3 rfl ?_
  refine Tr.gskip rfl rfl hT3 rfl ?_
  refine Tr.gskip rfl rfl hT3 rfl ?_
  refine Tr.q (QS.pickT rfl hT3 rfl) rfl ?_
  refine Tr.nil (Tr.thenN ?_)
  exact Tr.endX (Sub.cons rfl (Sub.dropN 14 (by kernel_rfl) rfl))
 refine Tr.nil (Tr.thenN ?_)
 refine Tr.cond rfl (fun h4 => ?_) (fun h4 => ?_)
 ·try simp only [bs] at h4
  refine Tr.seq (Tr.region ?_)
  refine Tr.q (QS.build (vs := []) rfl rfl (HLF.built86)) rfl ?_
  refine Tr.storeW rfl rfl Try.sizeOf86 (by repeat constructor) (by rfl) (by rfl) (by first | exact List.all_eq_true.1 rfl | exact Enc.one _ _ | exact Enc.one encReg _) rfl ?_
  refine Tr.q (QS.assign rfl) rfl ?_
  refine Tr.nil (Tr.thenN (Tr.ret (Tr.thenR ?_)))
  refine Tr.retC2 Try.results40 rfl rfl (by repeat constructor) Try.isAgg86 Try.sizeOf86 (by rfl) (fun w' hw => ?_)
  have hq : restA l a < n := (hO.mapd (by omega)).2 (by simp_all)
  exact ⟨by unfold mapR mapE_; rw [if_pos hq, if_pos hq]; rfl, hw.below (Bg.le.refl _)⟩
 ·try simp only [bs] at h4
  refine Tr.skip (Tr.thenN (Tr.seq (Tr.region ?_)))
  refine Tr.q (QS.lW rfl Try.isAgg86 Try.sizeOf86) rfl ?_
  refine Tr.storeW rfl rfl Try.sizeOf86 (by repeat constructor) (by rfl) (by rfl) (by first | exact List.all_eq_true.1 rfl | exact Enc.one _ _ | exact Enc.one encReg _) rfl ?_
  refine Tr.q (QS.assign rfl) rfl ?_
  refine Tr.nil (Tr.thenN (Tr.ret ?_))
  refine Tr.retC2 Try.results40 rfl rfl (by repeat constructor) Try.isAgg86 Try.sizeOf86 (by rfl) (fun w' hw => ?_)
  have hq : ¬ restA l a < n := by rw [hO.mapd (by omega)]; simp_all
  exact ⟨by unfold mapR mapE_; rw [if_neg hq, if_neg hq]; rfl, hw.below (Bg.le.refl _)⟩
set_option maxRecDepth 100000 in
set_option maxHeartbeats 4000000 in
theorem mload_any (bM bm : Nat) (VR : Value) (rs : List RegV) (l : List SecV) (a : UInt32) (n : Int) (wl : WL) (w : World) (hM : MemAt (hp w) bM bm VR rs) (hO : MemOK l rs) (hW : MapIn (hp w) bm u8V wl) :
  Calls Try.prog 12 #[.pointer (some ⟨bM, 0, none⟩), .int .u32 a.toNat, .int .i64 n] w (fun e w' => e = .returned (.tuple #[.int .u32 (loadA l (mread wl) a n).1.toNat, .int .i64 (loadA l (mread wl) a n).2]) ∧ Ext w w') := by
 have hC' : CellsIn (Bg.of w).blk bM [VR, .map (some bm)] := hM.cells
 have hR' : Sl (Bg.of w).blk encReg rs VR := hM.regs
 have hM' : MemAt (Bg.of w).blk bM bm VR rs := hM
 have hrl := hO.bounds.1
 have hW' : MapIn (Bg.of w).blk bm u8V wl := hW
 refine enter Try.func12 rfl Try.ntmps12 rfl ?_
 refine Tr.seq (Tr.region ?_)
 refine Tr.q (QS.assign rfl) rfl ?_
 refine Tr.q (QS.assign rfl) rfl ?_
 refine Tr.nil (Tr.thenN (Tr.seq (Tr.seq (Tr.region ?_))))
 refine Tr.q (QS.move rfl) rfl ?_
 refine Tr.q (QS.call rfl Try.call38 (fun w hw => mmade_any bM bm VR w (hC'.mono hw.bg))) rfl ?_
 refine Tr.q (QS.not rfl) rfl ?_
 refine Tr.nil (Tr.thenN ?_)
 refine Tr.cond rfl (fun h1 => ?_) (fun h1 => ?_)
 ·try simp only [bs] at h1
  first | contradiction | (exfalso; omega) | simp_all
 ·try simp only [bs] at h1
  refine Tr.skip (Tr.thenN (Tr.seq (Tr.seq (Tr.region ?_))))
  refine Tr.q (QS.move rfl) rfl ?_
  refine Tr.q (QS.call rfl Try.call39 (fun w hw => mvalid_any n w)) rfl ?_
  refine Tr.q (QS.not rfl) rfl ?_
  refine Tr.nil (Tr.thenN ?_)
  refine Tr.cond rfl (fun h2 => ?_) (fun h2 => ?_)
  ·try simp only [bs] at h2
   refine Tr.seq (Tr.region ?_)
   refine Tr.q (QS.assign rfl) rfl ?_
   refine Tr.q (QS.assign rfl) rfl ?_
   refine Tr.nil (Tr.thenN (Tr.ret (Tr.thenR ?_)))
   refine Tr.ret2 Try.results12 rfl rfl (fun w' hw => ?_)
   exact ⟨by rw [load_1 (by assumption)]; rfl, hw.below (Bg.le.refl _)⟩
  ·try simp only [bs] at h2
   refine Tr.skip (Tr.thenN (Tr.seq ?_))
   have hw0 : ¬ widP n = false := by simp_all
   have hwr := widP_rng (show widP n = true by simpa using hw0)
   refine Tr.region ?_
   refine Tr.q (QS.move rfl) rfl ?_
   refine Tr.q (QS.move rfl) rfl ?_
   refine Tr.q (QS.move rfl) rfl ?_
   refine Tr.q (QS.call rfl Try.call40 (fun w hw => mmapped_any bM bm VR rs l a n w (hM'.mono hw.bg) hO (by omega))) rfl ?_
   refine Tr.q (QS.move rfl) rfl ?_
   refine Tr.q (QS.extract rfl rfl) rfl ?_
   refine Tr.q (QS.extract rfl rfl) rfl ?_
   refine Tr.alloc Try.zeroValue86 rfl rfl (fun b3 => ?_)
   refine Tr.storeW rfl rfl Try.sizeOf86 (by repeat constructor) (by rfl) (by rfl) (by first | exact List.all_eq_true.1 rfl | exact Enc.one _ _ | exact Enc.one encReg _) rfl ?_
   change Tr _ _ (cellE b3 (encReg.enc (mapR l rs a n)) 86 :: _) _ _
   refine Tr.q (QS.assign rfl) rfl ?_
   refine Tr.nil (Tr.thenN (Tr.seq (Tr.seq (Tr.region ?_))))
   refine Tr.q (QS.move rfl) rfl ?_
   refine Tr.q (QS.neq rfl rfl) rfl ?_
   refine Tr.nil (Tr.thenN ?_)
   refine Tr.cond rfl (fun h4 => ?_) (fun h4 => ?_)
   ·try simp only [bs] at h4
    refine Tr.seq (Tr.region ?_)
    refine Tr.q (QS.move rfl) rfl ?_
    refine Tr.q (QS.assign rfl) rfl ?_
    refine Tr.q (QS.assign rfl) rfl ?_
    refine Tr.nil (Tr.thenN (Tr.ret (Tr.thenR ?_)))
    refine Tr.ret2 Try.results12 rfl rfl (fun w' hw => ?_)
    have hq : restA l a < n := by
     rcases Int.lt_or_le (restA l a) n with q | q
     ·exact q
     ·exfalso
      have e : mapE_ l a n = 0 := by unfold mapE_; rw [if_neg (by omega)]
      exact absurd e (by assumption)
    exact ⟨by rw [load_2 hw0 hq, show mapE_ l a n = 11 by unfold mapE_; rw [if_pos hq]]; rfl, hw.below (Bg.le.refl _)⟩
   ·try simp only [bs] at h4
    refine Tr.skip (Tr.thenN (Tr.seq ?_))
    have hq : ¬ restA l a < n := by
     intro q
     have e : mapE_ l a n = 11 := by unfold mapE_; rw [if_pos q]
     omega
    obtain ⟨hf, hmr, _, hg1, hg2, hg3⟩ := hO.mapd_ok (by omega) hq
    rw [hmr]
    have hbl := bytesA_len l (mread wl) n.toNat a
    refine Tr.region ?_
    refine Tr.q (QS.assign rfl) rfl ?_
    refine Tr.nil (Tr.thenN (Tr.seq (Tr.seq (Tr.region ?_))))
    refine Tr.q (QS.move rfl) rfl ?_
    refine Tr.q (QS.lW rfl Try.isAgg86 Try.sizeOf86) rfl ?_
    refine Tr.q (QS.move rfl) rfl ?_
    refine Tr.q (QS.move rfl) rfl ?_
    refine Tr.callRow rfl Try.call41 (fun w hw => (by have q := mpres_any bM bm VR (fndR rs a) a n.toNat wl w (hC'.mono hw.bg) (hW'.mono hw.bg) (hw.slF (hM'.fnd a)) hg1 hg2 hg3 (by omega); rw [show ((n.toNat : Nat) : Int) = n by omega] at q; exact q)) rfl (fun V5 => ?_)
    refine Tr.rowEq (l' := (bytesA l (mread wl) a n.toNat)) (hO.pres hf (by omega)) ?_
    refine Tr.q (QS.lenRow rfl (by repeat constructor) Try.underlying78) rfl ?_
    refine Tr.q (QS.move rfl) rfl ?_
    refine Tr.nil (Tr.thenN (Tr.block ?_))
    refine Tr.loop (ι := Nat) (fun k => k ≤ (bytesA l (mread wl) a n.toNat).length) (fun _ => _) (fun k => [rowE V5 5 encU8 (bytesA l (mread wl) a n.toNat), cellE b3 (encReg.enc (fndR rs a)) 86]) (fun k => [(35, .int .i64 (k : Nat)), (10, .int .u32 (leP ((bytesA l (mread wl) a n.toNat).take k)).toNat)]) (fun k => (bytesA l (mread wl) a n.toNat).length - k) 0 (Nat.zero_le _) (.cons (by first | rfl | exact lookI rfl (by omega) | exact lookI rfl (by rw [le_step (by omega) (by omega) rfl]) | exact lookI rfl (by simp) | exact lookB rfl (by simp)) (.cons (by first | rfl | exact lookI rfl (by omega) | exact lookI rfl (by rw [le_step (by omega) (by omega) rfl]) | exact lookI rfl (by simp) | exact lookB rfl (by simp)) Front.nil)) (by repeat' constructor) rfl (fun k hi m hm => ?_)
    replace hi : k ≤ (bytesA l (mread wl) a n.toNat).length := hi
    replace hm : m = (bytesA l (mread wl) a n.toNat).length - k := hm
    change Tr _ _ [rowE V5 5 encU8 (bytesA l (mread wl) a n.toNat), cellE b3 (encReg.enc (fndR rs a)) 86] ([(35, .int .i64 (k : Nat)), (10, .int .u32 (leP ((bytesA l (mread wl) a n.toNat).take k)).toNat)] ++ _) _
    refine Tr.seq (Tr.region ?_)
    refine Tr.q (QS.lss rfl rfl) rfl ?_
    refine Tr.nil (Tr.thenN (Tr.seq ?_))
    refine Tr.cond rfl (fun h6 => ?_) (fun h6 => ?_)
    ·try simp only [bs] at h6
     refine Tr.skip (Tr.thenN (Tr.seq (Tr.block (Tr.seq (Tr.region ?_)))))
     refine Tr.q (QS.move rfl) rfl ?_
     refine Tr.q (QS.idxRowN rfl rfl (by repeat constructor) Try.underlying78 Try.sizeOf5 (by rfl) (by omega)) rfl ?_
     refine Tr.q (QS.elR1 rfl (by repeat constructor) Try.isAgg5 (by omega) (by rfl)) rfl ?_
     refine Tr.q (QS.assign rfl) rfl ?_
     refine Tr.q (QS.assign rfl) rfl ?_
     refine Tr.nil (Tr.thenN (Tr.region ?_))
     refine Tr.q (QS.move rfl) rfl ?_
     refine Tr.q (QS.move rfl) rfl ?_
     refine Tr.q (QS.cvt8to32 rfl Try.underlying5 Try.underlying22) rfl ?_
     refine Tr.q (QS.move rfl) rfl ?_
     refine Tr.q (QS.mulI rfl rfl (by omega)) rfl ?_
     refine Tr.q (QS.shl32 rfl rfl (by omega)) rfl ?_
     refine Tr.q (QS.or32 rfl rfl) rfl ?_
     refine Tr.q (QS.assign rfl) rfl ?_
     refine Tr.nil (Tr.inN (Tr.thenN (Tr.region ?_)))
     refine Tr.q (QS.addI rfl rfl (by omega)) rfl ?_
     refine Tr.q (QS.move rfl) rfl ?_
     refine Tr.nil (Tr.thenN ?_)
     apply Tr.again (k + 1)
     ·exact rfl
     ·exact (.cons (by first | rfl | exact lookI rfl (by omega) | exact lookI rfl (by rw [le_step (by omega) (by omega) rfl]) | exact lookI rfl (by simp) | exact lookB rfl (by simp)) (.cons (by first | rfl | exact lookI rfl (by omega) | exact lookI rfl (by rw [le_step (by omega) (by omega) rfl]) | exact lookI rfl (by simp) | exact lookB rfl (by simp)) Front.nil))
     ·exact SubX.dropN 18 (by kernel_rfl) rfl
     ·exact (by repeat' constructor)
     ·exact (by show k + 1 ≤ _; omega)
     ·exact (by (try dsimp only); omega)
    ·try simp only [bs] at h6
     refine Tr.exit ?_
     refine Tr.thenE (Tr.thenE (Tr.inHit (Tr.thenN (Tr.seq (Tr.region ?_)))))
     refine Tr.q (QS.move rfl) rfl ?_
     refine Tr.q (QS.assign rfl) rfl ?_
     refine Tr.q (QS.assign rfl) rfl ?_
     refine Tr.nil (Tr.thenN (Tr.ret ?_))
     refine Tr.ret2 Try.results12 rfl rfl (fun w' hw => ?_)
     exact ⟨by rw [load_3 hw0 hq, List.take_of_length_le (by omega)], hw.below (Bg.le.refl _)⟩
set_option maxRecDepth 100000 in
set_option maxHeartbeats 4000000 in
theorem mstore_any (bM bm : Nat) (VR : Value) (rs : List RegV) (l : List SecV) (a : UInt32) (n : Int) (x : UInt32) (wl : WL) (w : World) (ho : OwnAt w [mapE bm u8V wl]) (hM : MemAt (Bg.lessB w [bm] 0).blk bM bm VR rs) (hO : MemOK l rs) :
  Calls Try.prog 35 #[.pointer (some ⟨bM, 0, none⟩), .int .u32 a.toNat, .int .i64 n, .int .u32 x.toNat] w (fun e w' => ∃ wl' : WL, e = .returned (.int .i64 (storeA l (mread wl) a n x).2) ∧ Upd 0 w w' (blks [mapE bm u8V wl]) [mapE bm u8V wl'] ∧ (mread wl' = (storeA l (mread wl) a n x).1 ∧ wl'.length ≤ wl.length + 4)) := by
 have hC' := hM.cells
 refine enterB (L := [mapE bm u8V wl]) ho rfl (Nat.zero_le _) Try.func35 rfl Try.ntmps35 rfl ?_
 refine Tr.seq (Tr.region ?_)
 refine Tr.q (QS.assign rfl) rfl ?_
 refine Tr.nil (Tr.thenN (Tr.seq (Tr.seq (Tr.region ?_))))
 refine Tr.q (QS.move rfl) rfl ?_
 refine Tr.q (QS.call rfl Try.call38 (fun w hw => mmade_any bM bm VR w (hC'.mono hw.bg))) rfl ?_
 refine Tr.q (QS.not rfl) rfl ?_
 refine Tr.nil (Tr.thenN ?_)
 refine Tr.cond rfl (fun h1 => ?_) (fun h1 => ?_)
 ·try simp only [bs] at h1
  first | contradiction | (exfalso; omega) | simp_all
 ·try simp only [bs] at h1
  refine Tr.skip (Tr.thenN (Tr.seq (Tr.seq (Tr.region ?_))))
  refine Tr.q (QS.move rfl) rfl ?_
  refine Tr.q (QS.call rfl Try.call39 (fun w hw => mvalid_any n w)) rfl ?_
  refine Tr.q (QS.not rfl) rfl ?_
  refine Tr.nil (Tr.thenN ?_)
  refine Tr.cond rfl (fun h2 => ?_) (fun h2 => ?_)
  ·try simp only [bs] at h2
   refine Tr.seq (Tr.region ?_)
   refine Tr.q (QS.assign rfl) rfl ?_
   refine Tr.nil (Tr.thenN (Tr.ret (Tr.thenR ?_)))
   refine Tr.ret1 Try.results35 rfl (fun w' hw => ?_)
   exact ⟨wl, by rw [store_1 (by assumption)], hw.upd (Bg.le.refl _) (by repeat' constructor), by rw [store_1 (by assumption)], by omega⟩
  ·try simp only [bs] at h2
   refine Tr.skip (Tr.thenN (Tr.seq ?_))
   have hw0 : ¬ widP n = false := by simp_all
   have hwr := widP_rng (show widP n = true by simpa using hw0)
   refine Tr.region ?_
   refine Tr.q (QS.move rfl) rfl ?_
   refine Tr.q (QS.move rfl) rfl ?_
   refine Tr.q (QS.move rfl) rfl ?_
   refine Tr.q (QS.call rfl Try.call40 (fun w hw => mmapped_any bM bm VR rs l a n w (hM.mono hw.bg) hO (by omega))) rfl ?_
   refine Tr.q (QS.move rfl) rfl ?_
   refine Tr.q (QS.extract rfl rfl) rfl ?_
   refine Tr.q (QS.extract rfl rfl) rfl ?_
   refine Tr.alloc Try.zeroValue86 rfl rfl (fun b3 => ?_)
   refine Tr.storeW rfl rfl Try.sizeOf86 (by repeat constructor) (by rfl) (by rfl) (by first | exact List.all_eq_true.1 rfl | exact Enc.one _ _ | exact Enc.one encReg _) rfl ?_
   change Tr _ _ (cellE b3 (encReg.enc (mapR l rs a n)) 86 :: _) _ _
   refine Tr.q (QS.assign rfl) rfl ?_
   refine Tr.nil (Tr.thenN (Tr.seq (Tr.seq (Tr.region ?_))))
   refine Tr.q (QS.move rfl) rfl ?_
   refine Tr.q (QS.neq rfl rfl) rfl ?_
   refine Tr.nil (Tr.thenN ?_)
   refine Tr.cond rfl (fun h4 => ?_) (fun h4 => ?_)
   ·try simp only [bs] at h4
    refine Tr.seq (Tr.region ?_)
    refine Tr.q (QS.move rfl) rfl ?_
    refine Tr.q (QS.assign rfl) rfl ?_
    refine Tr.nil (Tr.thenN (Tr.ret (Tr.thenR ?_)))
    refine Tr.ret1 Try.results35 rfl (fun w' hw => ?_)
    have hq : restA l a < n := by
     rcases Int.lt_or_le (restA l a) n with q | q
     ·exact q
     ·exfalso
      have e : mapE_ l a n = 0 := by unfold mapE_; rw [if_neg (by omega)]
      exact absurd e (by assumption)
    exact ⟨wl, by rw [store_2 hw0 hq, show mapE_ l a n = 11 by unfold mapE_; rw [if_pos hq]]; rfl, hw.upd (Bg.le.refl _) (by repeat' constructor), by rw [store_2 hw0 hq], by omega⟩
   ·try simp only [bs] at h4
    refine Tr.skip (Tr.thenN (Tr.seq (Tr.seq ?_)))
    have hq : ¬ restA l a < n := by
     intro q
     have e : mapE_ l a n = 11 := by unfold mapE_; rw [if_pos q]
     omega
    obtain ⟨hf, hmr, _, hg1, hg2, hg3⟩ := hO.mapd_ok (by omega) hq
    rw [hmr]
    have hwr8 := (hO.rights hf).1
    refine Tr.region ?_
    refine Tr.q (QS.fieldAddr (off := 2) (ft := 84) rfl Try.underlying86 rfl rfl Try.sizeOf84 (by decide)) rfl ?_
    refine Tr.q (QS.fieldAddr (off := 0) (ft := 4) rfl Try.underlying84 rfl rfl Try.sizeOf4 (by decide)) rfl ?_
    refine Tr.q (QS.lV rfl Try.isAgg4) rfl ?_
    refine Tr.q (QS.not rfl) rfl ?_
    refine Tr.nil (Tr.thenN ?_)
    refine Tr.cond rfl (fun h5 => ?_) (fun h5 => ?_)
    ·try simp only [bs] at h5
     refine Tr.seq (Tr.region ?_)
     refine Tr.q (QS.assign rfl) rfl ?_
     refine Tr.nil (Tr.thenN (Tr.ret (Tr.thenR ?_)))
     refine Tr.ret1 Try.results35 rfl (fun w' hw => ?_)
     have h3 : wrA l a = false := by rw [← hwr8]; simp_all
     exact ⟨wl, by rw [store_3 hw0 hq h3], hw.upd (Bg.le.refl _) (by repeat' constructor), by rw [store_3 hw0 hq h3], by omega⟩
    ·try simp only [bs] at h5
     refine Tr.skip (Tr.thenN (Tr.seq (Tr.seq (Tr.region ?_))))
     refine Tr.q (QS.move rfl) rfl ?_
     refine Tr.q (QS.move rfl) rfl ?_
     refine Tr.nil (Tr.thenN (Tr.block ?_))
     refine Tr.loop (ι := Nat) (fun k => k ≤ n.toNat) (fun _ => (Bg.lessB w [bm] 0)) (fun k => [mapE bm u8V (putL wl a x k), cellE b3 (encReg.enc (fndR rs a)) 86]) (fun k => [(33, .int .i64 (k : Nat))]) (fun k => n.toNat - k) 0 (Nat.zero_le _) (.cons (by first | rfl | exact lookI rfl (by omega) | exact lookI rfl (by simp) | exact lookB rfl (by simp)) Front.nil) (by repeat' constructor) rfl (fun k hi m hm => ?_)
     replace hi : k ≤ n.toNat := hi
     replace hm : m = n.toNat - k := hm
     change Tr _ _ [mapE bm u8V (putL wl a x k), cellE b3 (encReg.enc (fndR rs a)) 86] ([(33, .int .i64 (k : Nat))] ++ _) _
     refine Tr.seq (Tr.region ?_)
     refine Tr.q (QS.lss rfl rfl) rfl ?_
     refine Tr.nil (Tr.thenN (Tr.seq ?_))
     refine Tr.cond rfl (fun h6 => ?_) (fun h6 => ?_)
     ·try simp only [bs] at h6
      refine Tr.skip (Tr.thenN (Tr.seq (Tr.block (Tr.seq (Tr.region ?_)))))
      refine Tr.q (QS.move rfl) rfl ?_
      refine Tr.q (QS.assign rfl) rfl ?_
      refine Tr.nil (Tr.thenN ?_)
      refine Tr.regionH ([]) 14 rfl HLF.mixed ?_
      refine Tr.hT 0 rfl (by kernel_rfl) (panicIn (panicThen (panicThen (panicIn (panicThen panicBody))))) (QS.move rfl) ?_
      refine Tr.hT 1 rfl (by kernel_rfl) (panicIn (panicThen (panicThen (panicIn (panicThen panicBody))))) (QS.nilCheck rfl) ?_
      refine Tr.hT 2 rfl (by kernel_rfl) (panicIn (panicThen (panicThen (panicIn (panicThen panicBody))))) (QS.fieldAddr (off := 1) (ft := 31) rfl Try.underlying33 rfl rfl Try.sizeOf31 (by decide)) ?_
      refine Tr.hT 3 rfl (by kernel_rfl) (panicIn (panicThen (panicThen (panicIn (panicThen panicBody))))) (QS.loadCF rfl (by assumption) Try.isAgg31 (by rfl)) ?_
      refine Tr.hT 4 rfl (by kernel_rfl) (panicIn (panicThen (panicThen (panicIn (panicThen panicBody))))) (QS.move rfl) ?_
      refine Tr.hT 5 rfl (by kernel_rfl) (panicIn (panicThen (panicThen (panicIn (panicThen panicBody))))) (QS.move rfl) ?_
      refine Tr.hT 6 rfl (by kernel_rfl) (panicIn (panicThen (panicThen (panicIn (panicThen panicBody))))) (QS.cvtTo32 rfl Try.underlying3 Try.underlying22) ?_
      refine Tr.hT 7 rfl (by kernel_rfl) (panicIn (panicThen (panicThen (panicIn (panicThen panicBody))))) (QS.add32 rfl rfl) ?_
      refine Tr.hT 8 rfl (by kernel_rfl) (panicIn (panicThen (panicThen (panicIn (panicThen panicBody))))) (QS.move rfl) ?_
      refine Tr.hT 9 rfl (by kernel_rfl) (panicIn (panicThen (panicThen (panicIn (panicThen panicBody))))) (QS.move rfl) ?_
      refine Tr.hT 10 rfl (by kernel_rfl) (panicIn (panicThen (panicThen (panicIn (panicThen panicBody))))) (QS.mulI rfl rfl (by omega)) ?_
      refine Tr.hT 11 rfl (by kernel_rfl) (panicIn (panicThen (panicThen (panicIn (panicThen panicBody))))) (QS.shr32 rfl rfl (by omega)) ?_
      refine Tr.hT 12 rfl (by kernel_rfl) (panicIn (panicThen (panicThen (panicIn (panicThen panicBody))))) (QS.cvt32to8 rfl Try.underlying22 Try.underlying5) ?_
      refine Tr.hAll [13] (by kernel_rfl) (by simp) (fun iq hq => ?_)
      obtain rfl := List.mem_singleton.1 hq
      refine Tr.hOp rfl ?_
      refine Tr.mapUpdate (shr32 x (8 * (k : Int)).toNat).toUInt8 rfl rfl rfl (by repeat constructor) Try.underlying31 Try.underlying22 rfl ?_
      refine Tr.hN ?_
      refine Tr.hDone (by kernel_rfl) ?_
      refine Tr.inN (Tr.thenN (Tr.region ?_))
      refine Tr.q (QS.addI rfl rfl (by omega)) rfl ?_
      refine Tr.q (QS.move rfl) rfl ?_
      refine Tr.nil (Tr.thenN ?_)
      rw [show mput (putL wl a x k) (a + u32 (k : Int)) (shr32 x (8 * (k : Int)).toNat).toUInt8 = putL wl a x (k + 1) by rw [u32_nat, show (8 * (k : Int)).toNat = 8 * k by omega]; rfl]
      apply Tr.again (k + 1)
      ·exact rfl
      ·exact (.cons (by first | rfl | exact lookI rfl (by omega) | exact lookI rfl (by simp) | exact lookB rfl (by simp)) Front.nil)
      ·exact SubX.dropN 19 (by kernel_rfl) rfl
      ·exact (by repeat' constructor)
      ·exact (by show k + 1 ≤ _; omega)
      ·exact (by (try dsimp only); omega)
     ·try simp only [bs] at h6
      refine Tr.exit ?_
      refine Tr.thenE (Tr.thenE (Tr.inHit (Tr.thenN (Tr.seq (Tr.region ?_)))))
      refine Tr.q (QS.assign rfl) rfl ?_
      refine Tr.nil (Tr.thenN (Tr.ret ?_))
      refine Tr.ret1 Try.results35 rfl (fun w' hw => ?_)
      have h3 : ¬ wrA l a = false := by rw [← hwr8]; simp_all
      obtain rfl : k = n.toNat := by omega
      have hpl := putL_len wl a x n.toNat
      exact ⟨_, by rw [store_4 hw0 hq h3], hw.upd (Bg.le.refl _) (by repeat' constructor), by rw [store_4 hw0 hq h3, putL_read], by omega⟩
set_option maxRecDepth 100000 in
set_option maxHeartbeats 4000000 in
theorem mfetch_any (bM bm : Nat) (VR : Value) (rs : List RegV) (l : List SecV) (a : UInt32) (wl : WL) (w : World) (hM : MemAt (hp w) bM bm VR rs) (hO : MemOK l rs) (hW : MapIn (hp w) bm u8V wl) :
  Calls Try.prog 60 #[.pointer (some ⟨bM, 0, none⟩), .int .u32 a.toNat] w (fun e w' => ∃ V' : Value, e = .returned (.tuple #[V', .int .i64 (fetchA l (mread wl) a).2]) ∧ Ext w w' ∧ NewRow w w' 5 encU8 (fetchA l (mread wl) a).1 V') := by
 have hC' : CellsIn (Bg.of w).blk bM [VR, .map (some bm)] := hM.cells
 have hR' : Sl (Bg.of w).blk encReg rs VR := hM.regs
 have hM' : MemAt (Bg.of w).blk bM bm VR rs := hM
 have hrl := hO.bounds.1
 have hW' : MapIn (Bg.of w).blk bm u8V wl := hW
 have hal := a.toNat_lt
 refine enter Try.func60 rfl Try.ntmps60 rfl ?_
 refine Tr.seq (Tr.region ?_)
 refine Tr.q (QS.assign rfl) rfl ?_
 refine Tr.q (QS.assign rfl) rfl ?_
 refine Tr.nil (Tr.thenN (Tr.seq (Tr.seq (Tr.region ?_))))
 refine Tr.q (QS.move rfl) rfl ?_
 refine Tr.q (QS.call rfl Try.call38 (fun w hw => mmade_any bM bm VR w (hC'.mono hw.bg))) rfl ?_
 refine Tr.q (QS.not rfl) rfl ?_
 refine Tr.nil (Tr.thenN ?_)
 refine Tr.cond rfl (fun h1 => ?_) (fun h1 => ?_)
 ·try simp only [bs] at h1
  first | contradiction | (exfalso; omega) | simp_all
 ·try simp only [bs] at h1
  refine Tr.skip (Tr.thenN (Tr.seq (Tr.region ?_)))
  refine Tr.q (QS.move rfl) rfl ?_
  refine Tr.q (QS.move rfl) rfl ?_
  refine Tr.q (QS.call rfl Try.call59 (fun w hw => mfind_any bM bm VR rs l a w (hM'.mono hw.bg) hO)) rfl ?_
  refine Tr.q (QS.move rfl) rfl ?_
  refine Tr.q (QS.extract rfl rfl) rfl ?_
  refine Tr.q (QS.extract rfl rfl) rfl ?_
  refine Tr.alloc Try.zeroValue86 rfl rfl (fun b2 => ?_)
  refine Tr.storeW rfl rfl Try.sizeOf86 (by repeat constructor) (by rfl) (by rfl) (by first | exact List.all_eq_true.1 rfl | exact Enc.one _ _ | exact Enc.one encReg _) rfl ?_
  change Tr _ _ (cellE b2 (encReg.enc (fndR rs a)) 86 :: _) _ _
  refine Tr.q (QS.assign rfl) rfl ?_
  refine Tr.nil (Tr.thenN (Tr.seq (Tr.seq (Tr.region ?_))))
  refine Tr.q (QS.move rfl) rfl ?_
  refine Tr.q (QS.not rfl) rfl ?_
  refine Tr.nil (Tr.thenN ?_)
  refine Tr.cond rfl (fun h3 => ?_) (fun h3 => ?_)
  ·try simp only [bs] at h3
   refine Tr.seq ?_
   refine Tr.ownNil 5 encU8 ?_
   refine Tr.region ?_
   refine Tr.q (QS.assign rfl) rfl ?_
   refine Tr.q (QS.assign rfl) rfl ?_
   refine Tr.nil (Tr.thenN (Tr.ret (Tr.thenR ?_)))
   refine Tr.ret2 Try.results60 rfl rfl (fun w' hw => ?_)
   have hnr : noReg l a = true := (hO.none (by simp_all)).1
   exact ⟨_, by rw [fetch_1 hnr], hw.below (Bg.le.refl _), by rw [fetch_1 hnr]; exact hw.new (.head _)⟩
  ·try simp only [bs] at h3
   refine Tr.skip (Tr.thenN (Tr.seq (Tr.seq ?_)))
   have hf : ¬ fndI rs a < 0 := by simp_all
   obtain ⟨_, hnr, _, hg1, hg2⟩ := hO.reg hf
   have hg3 := hO.top hf
   have hex := (hO.rights hf).2
   refine Tr.region ?_
   refine Tr.q (QS.fieldAddr (off := 2) (ft := 84) rfl Try.underlying86 rfl rfl Try.sizeOf84 (by decide)) rfl ?_
   refine Tr.q (QS.loadVA (vs := [.bool (fndR rs a).wr, .bool (fndR rs a).ex]) rfl (by repeat constructor) Try.isAgg84 Try.sizeOf84 rfl rfl) rfl ?_
   refine Tr.q (QS.build (vs := []) rfl rfl (HLF.built84)) rfl ?_
   refine Tr.q (QS.eqlE (p := ⟨(fndR rs a).wr, (fndR rs a).ex⟩) (q := ⟨false, false⟩) rfl rfl rtsEqEnc Try.underlying84 (HLF.words84 _ Try.underlying84) rfl HLF.held84 HLF.eqg84) rfl ?_
   refine Tr.q (QS.move rfl) rfl ?_
   apply Tr.orP
   ·exact (rfl : _ = (5, 23, 28))
   ·exact rfl
   ·intro hF4; have hF4' := hF4
    try simp only [bs] at hF4'
    refine Tr.gq rfl rfl hF4 (QS.fieldAddr (off := 2) (ft := 84) rfl Try.underlying86 rfl rfl Try.sizeOf84 (by decide)) rfl ?_
    refine Tr.gq rfl rfl hF4 (QS.loadVA (vs := [.bool (fndR rs a).wr, .bool (fndR rs a).ex]) rfl (by repeat constructor) Try.isAgg84 Try.sizeOf84 rfl rfl) rfl ?_
    refine Tr.gq rfl rfl hF4 (QS.build (vs := [(0, _)]) rfl rfl (HLF.built84_0 _)) rfl ?_
    refine Tr.gq rfl rfl hF4 (QS.eqlE (p := ⟨(fndR rs a).wr, (fndR rs a).ex⟩) (q := ⟨true, false⟩) rfl rfl rtsEqEnc Try.underlying84 (HLF.words84 _ Try.underlying84) rfl HLF.held84 HLF.eqg84) rfl ?_
    refine Tr.q (QS.pickF rfl hF4 rfl) rfl ?_
    refine Tr.nil (Tr.thenN ?_)
    exact Tr.endX (Sub.cons rfl (Sub.dropN 5 (by kernel_rfl) rfl))
   ·intro hT4
    refine Tr.gskip rfl rfl hT4 rfl ?_
    refine Tr.gskip rfl rfl hT4 rfl ?_
    refine Tr.gskip rfl rfl hT4 rfl ?_
    refine Tr.gskip rfl rfl hT4 rfl ?_
    refine Tr.q (QS.pickT rfl hT4 rfl) rfl ?_
    refine Tr.nil (Tr.thenN ?_)
    exact Tr.endX (Sub.cons rfl (Sub.dropN 5 (by kernel_rfl) rfl))
   refine Tr.nil (Tr.thenN ?_)
   refine Tr.cond rfl (fun h5 => ?_) (fun h5 => ?_)
   ·try simp only [bs] at h5
    refine Tr.seq ?_
    refine Tr.ownNil 5 encU8 ?_
    refine Tr.region ?_
    refine Tr.q (QS.assign rfl) rfl ?_
    refine Tr.q (QS.assign rfl) rfl ?_
    refine Tr.nil (Tr.thenN (Tr.ret (Tr.thenR ?_)))
    refine Tr.ret2 Try.results60 rfl rfl (fun w' hw => ?_)
    have hx : exA l a = false := by rw [← hex]; simp_all; grind
    exact ⟨_, by rw [fetch_2 (by simp [hnr]) hx], hw.below (Bg.le.refl _), by rw [fetch_2 (by simp [hnr]) hx]; exact hw.new (.head _)⟩
   ·try simp only [bs] at h5
    refine Tr.skip (Tr.thenN (Tr.seq (Tr.region ?_)))
    refine Tr.q (QS.move rfl) rfl ?_
    refine Tr.q (QS.lW rfl Try.isAgg86 Try.sizeOf86) rfl ?_
    refine Tr.q (QS.move rfl) rfl ?_
    refine Tr.callRow rfl Try.call41 (fun w hw => (by have q := mpres_any bM bm VR (fndR rs a) a 6 wl w (hC'.mono hw.bg) (hW'.mono hw.bg) (hw.slF (hM'.fnd a)) (by omega) (by omega) (by omega) (by omega); exact q)) rfl (fun V6 => ?_)
    refine Tr.rowEq (l' := (bytesA l (mread wl) a (min 6 (restA l a)).toNat)) (hO.pres6 hf) ?_
    refine Tr.q (QS.assign rfl) rfl ?_
    refine Tr.q (QS.assign rfl) rfl ?_
    refine Tr.nil (Tr.thenN (Tr.ret ?_))
    refine Tr.ret2 Try.results60 rfl rfl (fun w' hw => ?_)
    have hx : ¬ exA l a = false := by rw [← hex]; simp_all; grind
    exact ⟨_, by rw [fetch_3 (by simp [hnr]) hx], hw.below (Bg.le.refl _), by rw [fetch_3 (by simp [hnr]) hx]; exact hw.new (.head _)⟩
set_option maxRecDepth 100000 in
set_option maxHeartbeats 2000000 in
theorem clone_reg (l : List RegV) (V : Value) (w : World) (hV : Sl (hp w) encReg l V) (hb : l.length ≤ 1000000) :
  Calls Try.prog 57 #[V] w (fun e w' => ∃ V', e = .returned V' ∧ Ext w w' ∧ NewRow w w' 86 encReg (l) V') := by
 have hV' : Sl (Bg.of w).blk encReg l V := hV
 refine enter Try.func57 rfl Try.ntmps57 rfl ?_
 refine Tr.seq (Tr.region ?_)
 refine Tr.q (QS.assign rfl) rfl ?_
 refine Tr.nil (Tr.thenN (Tr.seq (Tr.seq (Tr.region ?_))))
 refine Tr.q (QS.move rfl) rfl ?_
 refine Tr.q (QS.eqlNilS rfl (by assumption) Try.underlying30) rfl ?_
 refine Tr.nil (Tr.thenN ?_)
 refine Tr.cond rfl (fun h1 => ?_) (fun h1 => ?_)
 ·try simp only [bs] at h1
  refine Tr.seq (Tr.region ?_)
  refine Tr.q (QS.assign rfl) rfl ?_
  refine Tr.nil (Tr.thenN (Tr.ret (Tr.thenR ?_)))
  refine Tr.ret1 Try.results57 rfl (fun w' hw => ?_)
  exact ⟨_, rfl, hw.below (Bg.le.refl _), newRow_nil (hV.isNil h1)⟩
 ·try simp only [bs] at h1
  refine Tr.skip (Tr.thenN (Tr.seq (Tr.region ?_)))
  refine Tr.lit0 encReg Try.underlying30 Try.sizeOf86 rfl (fun V2 => ?_)
  refine Tr.q (QS.move rfl) rfl ?_
  refine Tr.appendOf rfl rfl (by repeat constructor) (fun w hw => hw.slF (by assumption)) Try.underlying30 HLF.info86 (by rfl) (by rfl) (by (try simp only [List.length_cons, List.length_nil, List.length_append, List.length_take]); omega) (by unfold maxLen; (try simp only [List.length_cons, List.length_nil, List.length_append, List.length_take]); omega) rfl (fun V3 => ?_)
  refine Tr.q (QS.assign rfl) rfl ?_
  refine Tr.nil (Tr.thenN (Tr.ret ?_))
  refine Tr.ret1 Try.results57 rfl (fun w' hw => ?_)
  exact ⟨_, rfl, hw.below (Bg.le.refl _), hw.new (.head _)⟩
set_option maxRecDepth 100000 in
set_option maxHeartbeats 4000000 in
theorem mclo_any (bM bm : Nat) (VR : Value) (rs : List RegV) (wl : WL) (w : World) (hM : MemAt (hp w) bM bm VR rs) (hW : MapIn (hp w) bm u8V wl) (hr : rs.length ≤ 100) :
  Calls Try.prog 34 #[.pointer (some ⟨bM, 0, none⟩)] w (fun e w' => ∃ i : Nat × Nat × Value, e = .returned (.pointer (some ⟨i.1, 0, none⟩)) ∧ Ext w w' ∧ NewEnts w w' [cellE i.1 [i.2.2, .map (some i.2.1)] 33, mapE i.2.1 u8V wl, rowE i.2.2 86 encReg rs] ∧ True) := by
 have hC' : CellsIn (Bg.of w).blk bM [VR, .map (some bm)] := hM.cells
 have hR' : Sl (Bg.of w).blk encReg rs VR := hM.regs
 have hW' : MapIn (Bg.of w).blk bm u8V wl := hW
 refine enter Try.func34 rfl Try.ntmps34 rfl ?_
 refine Tr.seq (Tr.region ?_)
 refine Tr.q (QS.assign rfl) rfl ?_
 refine Tr.nil (Tr.thenN (Tr.seq (Tr.seq (Tr.region ?_))))
 refine Tr.q (QS.move rfl) rfl ?_
 refine Tr.q (QS.call rfl Try.call38 (fun w hw => mmade_any bM bm VR w (hC'.mono hw.bg))) rfl ?_
 refine Tr.q (QS.not rfl) rfl ?_
 refine Tr.nil (Tr.thenN ?_)
 refine Tr.cond rfl (fun h1 => ?_) (fun h1 => ?_)
 ·try simp only [bs] at h1
  first | contradiction | (exfalso; omega) | simp_all
 ·try simp only [bs] at h1
  refine Tr.skip (Tr.thenN (Tr.seq ?_))
  refine Tr.regionH ([]) 13 rfl HLF.mixed ?_
  refine Tr.hT 0 rfl (by kernel_rfl) (panicThen panicBody) (QS.move rfl) ?_
  refine Tr.hT 1 rfl (by kernel_rfl) (panicThen panicBody) (QS.nilCheck rfl) ?_
  refine Tr.hT 2 rfl (by kernel_rfl) (panicThen panicBody) (QS.fieldAddr (off := 0) (ft := 30) rfl Try.underlying33 rfl rfl Try.sizeOf30 (by decide)) ?_
  refine Tr.hT 3 rfl (by kernel_rfl) (panicThen panicBody) (QS.loadCF rfl (by assumption) Try.isAgg30 (by rfl)) ?_
  refine Tr.hT 5 rfl (by kernel_rfl) (panicThen panicBody) (QS.move rfl) ?_
  refine Tr.hT 6 rfl (by kernel_rfl) (panicThen panicBody) (QS.nilCheck rfl) ?_
  refine Tr.hT 7 rfl (by kernel_rfl) (panicThen panicBody) (QS.fieldAddr (off := 1) (ft := 31) rfl Try.underlying33 rfl rfl Try.sizeOf31 (by decide)) ?_
  refine Tr.hT 8 rfl (by kernel_rfl) (panicThen panicBody) (QS.loadCF rfl (by assumption) Try.isAgg31 (by rfl)) ?_
  refine Tr.hAll [4] (by kernel_rfl) (by simp) (fun iq hq => ?_)
  obtain rfl := List.mem_singleton.1 hq
  refine Tr.hOp rfl ?_
  refine Tr.callRow rfl Try.call57 (fun w hw => clone_reg rs VR w (hw.slF hR') (by omega)) rfl (fun V40 => ?_)
  refine Tr.rowShape (V := V40) (by repeat constructor) (fun pr cr hpv => ?_)
  subst hpv
  refine Tr.hN ?_
  refine Tr.hAll [9] (by kernel_rfl) (by simp) (fun iq hq => ?_)
  obtain rfl := List.mem_singleton.1 hq
  refine Tr.hOp rfl ?_
  refine Tr.callEnts (fun b' : Nat => .map (some b')) (fun b' => [mapE b' u8V wl]) (ok := fun _ => True) rfl Try.call58 (fun w hw => mclone_any bm wl w (hW'.mono hw.bg)) rfl (fun bn _ => ?_)
  refine Tr.hN ?_
  refine Tr.hT 10 rfl (by kernel_rfl) (panicThen panicBody) (QS.build (vs := [(0, _), (1, _)]) (cs := #[.slice pr rs.length cr, .map (some bn)]) rfl rfl (by kernel_rfl)) ?_
  refine Tr.hAll [11] (by kernel_rfl) (by simp) (fun iq hq => ?_)
  obtain rfl := List.mem_singleton.1 hq
  refine Tr.hOp rfl ?_
  refine Tr.box rfl rfl rfl (fun b2 => ?_)
  refine Tr.hN ?_
  refine Tr.hT 12 rfl (by kernel_rfl) (panicThen panicBody) (QS.assign rfl) ?_
  refine Tr.hDone (by kernel_rfl) ?_
  refine Tr.thenN (Tr.ret ?_)
  refine Tr.ret1 Try.results34 rfl (fun w' hw => ?_)
  exact ⟨(_, _, _), rfl, hw.below (Bg.le.refl _), hw.ents (Bg.le.refl _) (by repeat' constructor), trivial⟩
set_option maxRecDepth 100000 in
set_option maxHeartbeats 8000000 in
theorem mnew_any (l : List SecV) (V : Value) (w : World) (hV : Sl (hp w) encSec l V) (hB : SecB l) (hN : ∀ s ∈ l, s.name.size ≤ 140737488351232) (hD : DataIn (hp w) l) :
  Calls Try.prog 9 #[V] w (fun e w' => ∃ i : Option (Nat × Nat × Value × List RegV), e = .returned (.tuple #[match i with | none => .pointer none | some j => .pointer (some ⟨j.1, 0, none⟩), .int .i64 (checkS l)]) ∧ Ext w w' ∧ NewEnts w w' (match i with | none => [] | some j => cellE j.1 [j.2.2.1, .map (some j.2.1)] 33 :: mapE j.2.1 u8V [] :: rowE j.2.2.1 86 encReg j.2.2.2 :: regEnts 5 j.2.2.2) ∧ (match i with | none => checkS l ≠ 0 | some j => MemOK l j.2.2.2)) := by
 have hV' : Sl (Bg.of w).blk encSec l V := hV
 have hD' : DataIn (Bg.of w).blk l := hD
 have hlen := hB.1
 refine enter Try.func9 rfl Try.ntmps9 rfl ?_
 refine Tr.seq (Tr.region ?_)
 refine Tr.q (QS.assign rfl) rfl ?_
 refine Tr.q (QS.assign rfl) rfl ?_
 refine Tr.nil (Tr.thenN (Tr.seq (Tr.seq (Tr.region ?_))))
 refine Tr.q (QS.move rfl) rfl ?_
 refine Tr.q (QS.call rfl Try.call32 (fun w hw => check_sec l V w (hw.slF hV') hB (fun s hs => by have := hN s hs; omega))) rfl ?_
 refine Tr.q (QS.assign rfl) rfl ?_
 refine Tr.nil (Tr.thenN (Tr.seq (Tr.region ?_)))
 refine Tr.q (QS.move rfl) rfl ?_
 refine Tr.q (QS.neq rfl rfl) rfl ?_
 refine Tr.nil (Tr.thenN ?_)
 refine Tr.cond rfl (fun h1 => ?_) (fun h1 => ?_)
 ·try simp only [bs] at h1
  refine Tr.seq (Tr.region ?_)
  refine Tr.q (QS.move rfl) rfl ?_
  refine Tr.q (QS.assign rfl) rfl ?_
  refine Tr.q (QS.assign rfl) rfl ?_
  refine Tr.nil (Tr.thenN (Tr.ret (Tr.thenR ?_)))
  refine Tr.ret2 Try.results9 rfl rfl (fun w' hw => ?_)
  exact ⟨none, rfl, hw.below (Bg.le.refl _), hw.ents (Bg.le.refl _) (by repeat' constructor), by assumption⟩
 ·try simp only [bs] at h1
  refine Tr.skip (Tr.thenN (Tr.seq (Tr.region ?_)))
  refine Tr.makeMap u8V rfl (fun b2 => ?_)
  refine Tr.q (QS.build (vs := [(1, _)]) (cs := #[.slice none 0 0, .map (some b2)]) rfl rfl (by kernel_rfl)) rfl ?_
  refine Tr.box rfl rfl rfl (fun b3 => ?_)
  refine Tr.q (QS.assign rfl) rfl ?_
  refine Tr.nil (Tr.thenN (Tr.seq (Tr.seq (Tr.region ?_))))
  refine Tr.q (QS.move rfl) rfl ?_
  refine Tr.q (QS.len rfl (by assumption) Try.underlying64) rfl ?_
  refine Tr.q (QS.move rfl) rfl ?_
  refine Tr.nil (Tr.thenN (Tr.block ?_))
  refine Tr.ownNil 86 encReg ?_
  refine Tr.loop (ι := Nat × Value × List RegV) (fun ⟨k, Vr, rs⟩ => k ≤ l.length ∧ rs.map RegV.pl = (l.take k).map secR) (fun _ => _) (fun ⟨k, Vr, rs⟩ => (cellE b3 [Vr, .map (some b2)] 33 :: rowE Vr 86 encReg rs :: mapE b2 u8V [] :: regEnts 5 rs)) (fun ⟨k, Vr, rs⟩ => [(18, .int .i64 (k : Nat))]) (fun ⟨k, Vr, rs⟩ => l.length - k) (0, .slice none 0 0, []) ⟨Nat.zero_le _, rfl⟩ (.cons (by first | rfl | exact lookI rfl (by omega) | exact lookI rfl (by simp) | exact lookB rfl (by simp)) Front.nil) (by repeat' constructor) rfl (fun i hi m hm => ?_)
  obtain ⟨k, Vr, rs⟩ := i
  replace hi : k ≤ l.length ∧ rs.map RegV.pl = (l.take k).map secR := hi
  replace hm : m = l.length - k := hm
  change Tr _ _ (cellE b3 [Vr, .map (some b2)] 33 :: rowE Vr 86 encReg rs :: mapE b2 u8V [] :: regEnts 5 rs) ([(18, .int .i64 (k : Nat))] ++ _) _
  obtain ⟨hk1, hk2⟩ := hi
  have hrl : rs.length = k := by have := congrArg List.length hk2; rw [List.length_map, List.length_map, List.length_take] at this; omega
  refine Tr.seq (Tr.region ?_)
  refine Tr.q (QS.lss rfl rfl) rfl ?_
  refine Tr.nil (Tr.thenN (Tr.seq ?_))
  refine Tr.cond rfl (fun h4 => ?_) (fun h4 => ?_)
  ·try simp only [bs] at h4
   refine Tr.skip (Tr.thenN (Tr.seq (Tr.block (Tr.seq ?_))))
   have hk3 := mem_getD (l := l) (k := k) (by omega)
   have hDk := hD' (l.getD k default) hk3
   have hdl := hB.at (k := k) (by omega)
   refine Tr.region ?_
   refine Tr.q (QS.idxN rfl rfl (by assumption) Try.underlying64 Try.sizeOf80 (by rfl) (by omega)) rfl ?_
   refine Tr.q (QS.elA rfl (by assumption) Try.isAgg80 Try.sizeOf80 (by rfl) (by omega)) rfl ?_
   refine Tr.alloc Try.zeroValue80 rfl rfl (fun b5 => ?_)
   refine Tr.storeW rfl rfl Try.sizeOf80 (by repeat constructor) (by rfl) (by rfl) (by first | exact List.all_eq_true.1 rfl | exact Enc.one _ _ | exact Enc.one encSec _) rfl ?_
   change Tr _ _ (cellE b5 (encSec.enc (l.getD k default)) 80 :: _) _ _
   refine Tr.nil (Tr.thenN ?_)
   refine Tr.regionH ([cellE b5 (encSec.enc (l.getD k default)) 80]) 22 rfl HLF.mixed ?_
   refine Tr.hT 0 rfl (by kernel_rfl) (panicIn (panicThen (panicThen (panicIn (panicThen panicBody))))) (QS.move rfl) ?_
   refine Tr.hT 1 rfl (by kernel_rfl) (panicIn (panicThen (panicThen (panicIn (panicThen panicBody))))) (QS.move rfl) ?_
   refine Tr.hT 2 rfl (by kernel_rfl) (panicIn (panicThen (panicThen (panicIn (panicThen panicBody))))) (QS.nilCheck rfl) ?_
   refine Tr.hT 3 rfl (by kernel_rfl) (panicIn (panicThen (panicThen (panicIn (panicThen panicBody))))) (QS.fieldAddr (off := 0) (ft := 30) rfl Try.underlying33 rfl rfl Try.sizeOf30 (by decide)) ?_
   refine Tr.hT 5 rfl (by kernel_rfl) (panicIn (panicThen (panicThen (panicIn (panicThen panicBody))))) (QS.fieldAddr (off := 1) (ft := 22) rfl Try.underlying80 rfl rfl Try.sizeOf22 (by decide)) ?_
   refine Tr.hT 6 rfl (by kernel_rfl) (panicIn (panicThen (panicThen (panicIn (panicThen panicBody))))) (QS.lV rfl Try.isAgg22) ?_
   refine Tr.hT 7 rfl (by kernel_rfl) (panicIn (panicThen (panicThen (panicIn (panicThen panicBody))))) (QS.cvt32toU rfl Try.underlying22 Try.underlying81) ?_
   refine Tr.hT 8 rfl (by kernel_rfl) (panicIn (panicThen (panicThen (panicIn (panicThen panicBody))))) (QS.fieldAddr (off := 2) (ft := 78) rfl Try.underlying80 rfl rfl Try.sizeOf78 (by decide)) ?_
   refine Tr.hT 9 rfl (by kernel_rfl) (panicIn (panicThen (panicThen (panicIn (panicThen panicBody))))) (QS.lV rfl Try.isAgg78) ?_
   refine Tr.hT 11 rfl (by kernel_rfl) (panicIn (panicThen (panicThen (panicIn (panicThen panicBody))))) (QS.fieldAddr (off := 3) (ft := 4) rfl Try.underlying80 rfl rfl Try.sizeOf4 (by decide)) ?_
   refine Tr.hT 12 rfl (by kernel_rfl) (panicIn (panicThen (panicThen (panicIn (panicThen panicBody))))) (QS.lV rfl Try.isAgg4) ?_
   refine Tr.hT 13 rfl (by kernel_rfl) (panicIn (panicThen (panicThen (panicIn (panicThen panicBody))))) (QS.fieldAddr (off := 4) (ft := 4) rfl Try.underlying80 rfl rfl Try.sizeOf4 (by decide)) ?_
   refine Tr.hT 14 rfl (by kernel_rfl) (panicIn (panicThen (panicThen (panicIn (panicThen panicBody))))) (QS.lV rfl Try.isAgg4) ?_
   refine Tr.hT 15 rfl (by kernel_rfl) (panicIn (panicThen (panicThen (panicIn (panicThen panicBody))))) (QS.build (vs := [(0, _), (1, _)]) (cs := #[.bool (l.getD k default).wr, .bool (l.getD k default).ex]) rfl rfl (by kernel_rfl)) ?_
   refine Tr.hAll [4, 10] (by kernel_rfl) (by simp) (fun iq hq => ?_)
   rcases List.mem_cons.1 hq with rfl | hq
   ·skip
    refine Tr.hOp rfl ?_
    refine Tr.q (QS.loadV rfl (by repeat constructor) Try.isAgg30 (by rfl)) rfl ?_
    refine Tr.hN ?_
    refine Tr.hAll [10] (by kernel_rfl) (by simp) (fun iq hq => ?_)
    obtain rfl := List.mem_singleton.1 hq
    refine Tr.hOp rfl ?_
    refine Tr.callRow rfl Try.call33 (fun w hw => clone_u8 (l.getD k default).data _ w (hw.slF hDk) (by omega)) rfl (fun V41 => ?_)
    refine Tr.rowShape (V := V41) (by repeat constructor) (fun pd cd hpv => ?_)
    subst hpv
    refine Tr.hN ?_
    refine Tr.hT 16 rfl (by kernel_rfl) (panicIn (panicThen (panicThen (panicIn (panicThen panicBody))))) (QS.build (vs := [(0, _), (1, _), (2, _)]) (cs := (encReg.enc (⟨(l.getD k default).addr.toNat, (l.getD k default).data, pd, cd, (l.getD k default).wr, (l.getD k default).ex⟩ : RegV)).toArray) rfl rfl (by kernel_rfl)) ?_
    refine Tr.hAll [17] (by kernel_rfl) (by simp) (fun iq hq => ?_)
    obtain rfl := List.mem_singleton.1 hq
    refine Tr.hOp rfl ?_
    refine Tr.lit1 (E := encReg) (⟨(l.getD k default).addr.toNat, (l.getD k default).data, pd, cd, (l.getD k default).wr, (l.getD k default).ex⟩ : RegV) rfl rfl Try.underlying30 Try.sizeOf86 Try.zeroValue86 (by rfl) (by rfl) rfl (fun V6 => ?_)
    refine Tr.hN ?_
    refine Tr.hAll [18] (by kernel_rfl) (by simp) (fun iq hq => ?_)
    obtain rfl := List.mem_singleton.1 hq
    refine Tr.hOp rfl ?_
    refine Tr.append1 rfl rfl (by repeat constructor) (by repeat constructor) Try.underlying30 HLF.info86 (by rfl) (by rfl) (by (try simp only [List.length_cons, List.length_nil, List.length_append, List.length_take]); omega) (by unfold maxLen; (try simp only [List.length_cons, List.length_nil, List.length_append, List.length_take]); omega) rfl (fun V44 => ?_)
    refine Tr.rowShape (V := V44) (by repeat constructor) (fun pn cn hpv => ?_)
    subst hpv
    refine Tr.hN ?_
    refine Tr.hT 19 rfl (by kernel_rfl) (panicIn (panicThen (panicThen (panicIn (panicThen panicBody))))) (QS.nilCheck rfl) ?_
    refine Tr.hT 20 rfl (by kernel_rfl) (panicIn (panicThen (panicThen (panicIn (panicThen panicBody))))) (QS.fieldAddr (off := 0) (ft := 30) rfl Try.underlying33 rfl rfl Try.sizeOf30 (by decide)) ?_
    refine Tr.hAll [21] (by kernel_rfl) (by simp) (fun iq hq => ?_)
    obtain rfl := List.mem_singleton.1 hq
    refine Tr.hOp rfl ?_
    refine Tr.storeV rfl rfl Try.sizeOf30 (by repeat constructor) rfl (by rfl) (by first | exact Nat.le_of_ble_eq_true rfl | simp) (by first | exact List.all_eq_true.1 rfl | (intro u hu; simp [Value.cells] at hu; simp_all [Value.oneCell'])) rfl ?_
    refine Tr.hN ?_
    refine Tr.hDone (by kernel_rfl) ?_
    refine Tr.inN (Tr.thenN (Tr.region ?_))
    refine Tr.q (QS.addI rfl rfl (by omega)) rfl ?_
    refine Tr.q (QS.move rfl) rfl ?_
    refine Tr.nil (Tr.thenN ?_)
    apply Tr.again (k + 1, .slice pn (rs ++ [(⟨(l.getD k default).addr.toNat, (l.getD k default).data, pd, cd, (l.getD k default).wr, (l.getD k default).ex⟩ : RegV)]).length cn, rs ++ [(⟨(l.getD k default).addr.toNat, (l.getD k default).data, pd, cd, (l.getD k default).wr, (l.getD k default).ex⟩ : RegV)])
    ·exact rfl
    ·exact (.cons (by first | rfl | exact lookI rfl (by omega) | exact lookI rfl (by simp) | exact lookB rfl (by simp)) Front.nil)
    ·exact SubX.dropN 28 (by kernel_rfl) rfl
    ·exact (by show Pick _ (cellE b3 [(.slice pn (rs ++ [(⟨(l.getD k default).addr.toNat, (l.getD k default).data, pd, cd, (l.getD k default).wr, (l.getD k default).ex⟩ : RegV)]).length cn), .map (some b2)] 33 :: rowE (.slice pn (rs ++ [(⟨(l.getD k default).addr.toNat, (l.getD k default).data, pd, cd, (l.getD k default).wr, (l.getD k default).ex⟩ : RegV)]).length cn) 86 encReg (rs ++ [(⟨(l.getD k default).addr.toNat, (l.getD k default).data, pd, cd, (l.getD k default).wr, (l.getD k default).ex⟩ : RegV)]) :: mapE b2 u8V [] :: regEnts 5 (rs ++ [(⟨(l.getD k default).addr.toNat, (l.getD k default).data, pd, cd, (l.getD k default).wr, (l.getD k default).ex⟩ : RegV)])); rw [regEnts_snoc]; exact .cons (by repeat constructor) (.cons (by repeat constructor) (.cons (by repeat constructor) (.cons (by repeat constructor) (by repeat (first | exact Pick.refl _ | apply Pick.skip))))))
    ·exact ⟨by omega, by rw [List.map_append, hk2, take_succ (by omega), List.map_append]; rfl⟩
    ·exact (by (try dsimp only); omega)
   obtain rfl := List.mem_singleton.1 hq
   refine Tr.hOp rfl ?_
   refine Tr.callRow rfl Try.call33 (fun w hw => clone_u8 (l.getD k default).data _ w (hw.slF hDk) (by omega)) rfl (fun V41 => ?_)
   refine Tr.rowShape (V := V41) (by repeat constructor) (fun pd cd hpv => ?_)
   subst hpv
   refine Tr.hN ?_
   refine Tr.hT 16 rfl (by kernel_rfl) (panicIn (panicThen (panicThen (panicIn (panicThen panicBody))))) (QS.build (vs := [(0, _), (1, _), (2, _)]) (cs := (encReg.enc (⟨(l.getD k default).addr.toNat, (l.getD k default).data, pd, cd, (l.getD k default).wr, (l.getD k default).ex⟩ : RegV)).toArray) rfl rfl (by kernel_rfl)) ?_
   refine Tr.hAll [4, 17] (by kernel_rfl) (by simp) (fun iq hq => ?_)
   rcases List.mem_cons.1 hq with rfl | hq
   ·skip
    refine Tr.hOp rfl ?_
    refine Tr.q (QS.loadV rfl (by repeat constructor) Try.isAgg30 (by rfl)) rfl ?_
    refine Tr.hN ?_
    refine Tr.hAll [17] (by kernel_rfl) (by simp) (fun iq hq => ?_)
    obtain rfl := List.mem_singleton.1 hq
    refine Tr.hOp rfl ?_
    refine Tr.lit1 (E := encReg) (⟨(l.getD k default).addr.toNat, (l.getD k default).data, pd, cd, (l.getD k default).wr, (l.getD k default).ex⟩ : RegV) rfl rfl Try.underlying30 Try.sizeOf86 Try.zeroValue86 (by rfl) (by rfl) rfl (fun V7 => ?_)
    refine Tr.hN ?_
    refine Tr.hAll [18] (by kernel_rfl) (by simp) (fun iq hq => ?_)
    obtain rfl := List.mem_singleton.1 hq
    refine Tr.hOp rfl ?_
    refine Tr.append1 rfl rfl (by repeat constructor) (by repeat constructor) Try.underlying30 HLF.info86 (by rfl) (by rfl) (by (try simp only [List.length_cons, List.length_nil, List.length_append, List.length_take]); omega) (by unfold maxLen; (try simp only [List.length_cons, List.length_nil, List.length_append, List.length_take]); omega) rfl (fun V44 => ?_)
    refine Tr.rowShape (V := V44) (by repeat constructor) (fun pn cn hpv => ?_)
    subst hpv
    refine Tr.hN ?_
    refine Tr.hT 19 rfl (by kernel_rfl) (panicIn (panicThen (panicThen (panicIn (panicThen panicBody))))) (QS.nilCheck rfl) ?_
    refine Tr.hT 20 rfl (by kernel_rfl) (panicIn (panicThen (panicThen (panicIn (panicThen panicBody))))) (QS.fieldAddr (off := 0) (ft := 30) rfl Try.underlying33 rfl rfl Try.sizeOf30 (by decide)) ?_
    refine Tr.hAll [21] (by kernel_rfl) (by simp) (fun iq hq => ?_)
    obtain rfl := List.mem_singleton.1 hq
    refine Tr.hOp rfl ?_
    refine Tr.storeV rfl rfl Try.sizeOf30 (by repeat constructor) rfl (by rfl) (by first | exact Nat.le_of_ble_eq_true rfl | simp) (by first | exact List.all_eq_true.1 rfl | (intro u hu; simp [Value.cells] at hu; simp_all [Value.oneCell'])) rfl ?_
    refine Tr.hN ?_
    refine Tr.hDone (by kernel_rfl) ?_
    refine Tr.inN (Tr.thenN (Tr.region ?_))
    refine Tr.q (QS.addI rfl rfl (by omega)) rfl ?_
    refine Tr.q (QS.move rfl) rfl ?_
    refine Tr.nil (Tr.thenN ?_)
    apply Tr.again (k + 1, .slice pn (rs ++ [(⟨(l.getD k default).addr.toNat, (l.getD k default).data, pd, cd, (l.getD k default).wr, (l.getD k default).ex⟩ : RegV)]).length cn, rs ++ [(⟨(l.getD k default).addr.toNat, (l.getD k default).data, pd, cd, (l.getD k default).wr, (l.getD k default).ex⟩ : RegV)])
    ·exact rfl
    ·exact (.cons (by first | rfl | exact lookI rfl (by omega) | exact lookI rfl (by simp) | exact lookB rfl (by simp)) Front.nil)
    ·exact SubX.dropN 28 (by kernel_rfl) rfl
    ·exact (by show Pick _ (cellE b3 [(.slice pn (rs ++ [(⟨(l.getD k default).addr.toNat, (l.getD k default).data, pd, cd, (l.getD k default).wr, (l.getD k default).ex⟩ : RegV)]).length cn), .map (some b2)] 33 :: rowE (.slice pn (rs ++ [(⟨(l.getD k default).addr.toNat, (l.getD k default).data, pd, cd, (l.getD k default).wr, (l.getD k default).ex⟩ : RegV)]).length cn) 86 encReg (rs ++ [(⟨(l.getD k default).addr.toNat, (l.getD k default).data, pd, cd, (l.getD k default).wr, (l.getD k default).ex⟩ : RegV)]) :: mapE b2 u8V [] :: regEnts 5 (rs ++ [(⟨(l.getD k default).addr.toNat, (l.getD k default).data, pd, cd, (l.getD k default).wr, (l.getD k default).ex⟩ : RegV)])); rw [regEnts_snoc]; exact .cons (by repeat constructor) (.cons (by repeat constructor) (.cons (by repeat constructor) (.cons (by repeat constructor) (by repeat (first | exact Pick.refl _ | apply Pick.skip))))))
    ·exact ⟨by omega, by rw [List.map_append, hk2, take_succ (by omega), List.map_append]; rfl⟩
    ·exact (by (try dsimp only); omega)
   obtain rfl := List.mem_singleton.1 hq
   refine Tr.hOp rfl ?_
   refine Tr.lit1 (E := encReg) (⟨(l.getD k default).addr.toNat, (l.getD k default).data, pd, cd, (l.getD k default).wr, (l.getD k default).ex⟩ : RegV) rfl rfl Try.underlying30 Try.sizeOf86 Try.zeroValue86 (by rfl) (by rfl) rfl (fun V8 => ?_)
   refine Tr.hN ?_
   refine Tr.hAll [4] (by kernel_rfl) (by simp) (fun iq hq => ?_)
   obtain rfl := List.mem_singleton.1 hq
   refine Tr.hOp rfl ?_
   refine Tr.q (QS.loadV rfl (by repeat constructor) Try.isAgg30 (by rfl)) rfl ?_
   refine Tr.hN ?_
   refine Tr.hAll [18] (by kernel_rfl) (by simp) (fun iq hq => ?_)
   obtain rfl := List.mem_singleton.1 hq
   refine Tr.hOp rfl ?_
   refine Tr.append1 rfl rfl (by repeat constructor) (by repeat constructor) Try.underlying30 HLF.info86 (by rfl) (by rfl) (by (try simp only [List.length_cons, List.length_nil, List.length_append, List.length_take]); omega) (by unfold maxLen; (try simp only [List.length_cons, List.length_nil, List.length_append, List.length_take]); omega) rfl (fun V44 => ?_)
   refine Tr.rowShape (V := V44) (by repeat constructor) (fun pn cn hpv => ?_)
   subst hpv
   refine Tr.hN ?_
   refine Tr.hT 19 rfl (by kernel_rfl) (panicIn (panicThen (panicThen (panicIn (panicThen panicBody))))) (QS.nilCheck rfl) ?_
   refine Tr.hT 20 rfl (by kernel_rfl) (panicIn (panicThen (panicThen (panicIn (panicThen panicBody))))) (QS.fieldAddr (off := 0) (ft := 30) rfl Try.underlying33 rfl rfl Try.sizeOf30 (by decide)) ?_
   refine Tr.hAll [21] (by kernel_rfl) (by simp) (fun iq hq => ?_)
   obtain rfl := List.mem_singleton.1 hq
   refine Tr.hOp rfl ?_
   refine Tr.storeV rfl rfl Try.sizeOf30 (by repeat constructor) rfl (by rfl) (by first | exact Nat.le_of_ble_eq_true rfl | simp) (by first | exact List.all_eq_true.1 rfl | (intro u hu; simp [Value.cells] at hu; simp_all [Value.oneCell'])) rfl ?_
   refine Tr.hN ?_
   refine Tr.hDone (by kernel_rfl) ?_
   refine Tr.inN (Tr.thenN (Tr.region ?_))
   refine Tr.q (QS.addI rfl rfl (by omega)) rfl ?_
   refine Tr.q (QS.move rfl) rfl ?_
   refine Tr.nil (Tr.thenN ?_)
   apply Tr.again (k + 1, .slice pn (rs ++ [(⟨(l.getD k default).addr.toNat, (l.getD k default).data, pd, cd, (l.getD k default).wr, (l.getD k default).ex⟩ : RegV)]).length cn, rs ++ [(⟨(l.getD k default).addr.toNat, (l.getD k default).data, pd, cd, (l.getD k default).wr, (l.getD k default).ex⟩ : RegV)])
   ·exact rfl
   ·exact (.cons (by first | rfl | exact lookI rfl (by omega) | exact lookI rfl (by simp) | exact lookB rfl (by simp)) Front.nil)
   ·exact SubX.dropN 28 (by kernel_rfl) rfl
   ·exact (by show Pick _ (cellE b3 [(.slice pn (rs ++ [(⟨(l.getD k default).addr.toNat, (l.getD k default).data, pd, cd, (l.getD k default).wr, (l.getD k default).ex⟩ : RegV)]).length cn), .map (some b2)] 33 :: rowE (.slice pn (rs ++ [(⟨(l.getD k default).addr.toNat, (l.getD k default).data, pd, cd, (l.getD k default).wr, (l.getD k default).ex⟩ : RegV)]).length cn) 86 encReg (rs ++ [(⟨(l.getD k default).addr.toNat, (l.getD k default).data, pd, cd, (l.getD k default).wr, (l.getD k default).ex⟩ : RegV)]) :: mapE b2 u8V [] :: regEnts 5 (rs ++ [(⟨(l.getD k default).addr.toNat, (l.getD k default).data, pd, cd, (l.getD k default).wr, (l.getD k default).ex⟩ : RegV)])); rw [regEnts_snoc]; exact .cons (by repeat constructor) (.cons (by repeat constructor) (.cons (by repeat constructor) (.cons (by repeat constructor) (by repeat (first | exact Pick.refl _ | apply Pick.skip))))))
   ·exact ⟨by omega, by rw [List.map_append, hk2, take_succ (by omega), List.map_append]; rfl⟩
   ·exact (by (try dsimp only); omega)
  ·try simp only [bs] at h4
   refine Tr.exit ?_
   refine Tr.thenE (Tr.thenE (Tr.inHit (Tr.thenN (Tr.seq ?_))))
   refine Tr.regionH ([]) 13 rfl HLF.mixed ?_
   refine Tr.hT 0 rfl (by kernel_rfl) (panicThen panicBody) (QS.move rfl) ?_
   refine Tr.hT 1 rfl (by kernel_rfl) (panicThen panicBody) (QS.move rfl) ?_
   refine Tr.hT 2 rfl (by kernel_rfl) (panicThen panicBody) (QS.nilCheck rfl) ?_
   refine Tr.hT 3 rfl (by kernel_rfl) (panicThen panicBody) (QS.fieldAddr (off := 0) (ft := 30) rfl Try.underlying33 rfl rfl Try.sizeOf30 (by decide)) ?_
   refine Tr.hT 6 rfl (by kernel_rfl) (panicThen panicBody) (QS.build (vs := [(0, _)]) (cs := #[.bool true, .bool false]) rfl rfl (by kernel_rfl)) ?_
   refine Tr.hAll [4, 5] (by kernel_rfl) (by simp) (fun iq hq => ?_)
   rcases List.mem_cons.1 hq with rfl | hq
   ·skip
    refine Tr.hOp rfl ?_
    refine Tr.q (QS.loadV rfl (by repeat constructor) Try.isAgg30 (by rfl)) rfl ?_
    refine Tr.hN ?_
    refine Tr.hAll [5] (by kernel_rfl) (by simp) (fun iq hq => ?_)
    obtain rfl := List.mem_singleton.1 hq
    refine Tr.hOp rfl ?_
    refine Tr.make (E := encU8) 0 (n := 4096) rfl rfl Try.underlying78 HLF.info5 rfl rfl rfl (by decide) rfl (fun b42 => ?_)
    obtain ⟨z4, hz4⟩ : ∃ z : List UInt8, z = List.replicate 4096 0 := ⟨_, rfl⟩
    rw [← hz4]
    refine Tr.hN ?_
    refine Tr.hT 7 rfl (by kernel_rfl) (panicThen panicBody) (QS.build (vs := [(0, _), (1, _), (2, _)]) (cs := (encReg.enc (⟨978944, z4, some ⟨b42, 0, none⟩, 4096, true, false⟩ : RegV)).toArray) rfl rfl (by kernel_rfl)) ?_
    refine Tr.hAll [8] (by kernel_rfl) (by simp) (fun iq hq => ?_)
    obtain rfl := List.mem_singleton.1 hq
    refine Tr.hOp rfl ?_
    refine Tr.lit1 (E := encReg) (⟨978944, z4, some ⟨b42, 0, none⟩, 4096, true, false⟩ : RegV) rfl rfl Try.underlying30 Try.sizeOf86 Try.zeroValue86 (by rfl) (by rfl) rfl (fun V9 => ?_)
    refine Tr.hN ?_
    refine Tr.hAll [9] (by kernel_rfl) (by simp) (fun iq hq => ?_)
    obtain rfl := List.mem_singleton.1 hq
    refine Tr.hOp rfl ?_
    refine Tr.append1 rfl rfl (by repeat constructor) (by repeat constructor) Try.underlying30 HLF.info86 (by rfl) (by rfl) (by (try simp only [List.length_cons, List.length_nil, List.length_append, List.length_take]); omega) (by unfold maxLen; (try simp only [List.length_cons, List.length_nil, List.length_append, List.length_take]); omega) rfl (fun V44 => ?_)
    refine Tr.rowShape (V := V44) (by repeat constructor) (fun pn cn hpv => ?_)
    subst hpv
    refine Tr.hN ?_
    refine Tr.hT 10 rfl (by kernel_rfl) (panicThen panicBody) (QS.nilCheck rfl) ?_
    refine Tr.hT 11 rfl (by kernel_rfl) (panicThen panicBody) (QS.fieldAddr (off := 0) (ft := 30) rfl Try.underlying33 rfl rfl Try.sizeOf30 (by decide)) ?_
    refine Tr.hAll [12] (by kernel_rfl) (by simp) (fun iq hq => ?_)
    obtain rfl := List.mem_singleton.1 hq
    refine Tr.hOp rfl ?_
    refine Tr.storeV rfl rfl Try.sizeOf30 (by repeat constructor) rfl (by rfl) (by first | exact Nat.le_of_ble_eq_true rfl | simp) (by first | exact List.all_eq_true.1 rfl | (intro u hu; simp [Value.cells] at hu; simp_all [Value.oneCell'])) rfl ?_
    refine Tr.hN ?_
    refine Tr.hDone (by kernel_rfl) ?_
    refine Tr.thenN (Tr.seq (Tr.region ?_))
    refine Tr.q (QS.move rfl) rfl ?_
    refine Tr.q (QS.assign rfl) rfl ?_
    refine Tr.q (QS.assign rfl) rfl ?_
    refine Tr.nil (Tr.thenN (Tr.ret ?_))
    refine Tr.ret2 Try.results9 rfl rfl (fun w' hw => ?_)
    have hfin : MemOK l (rs ++ [(⟨978944, z4, some ⟨b42, 0, none⟩, 4096, true, false⟩ : RegV)]) := ⟨by assumption, by rw [List.map_append, hk2, List.take_of_length_le (by omega), hz4]; rfl⟩
    exact ⟨some (b3, b2, .slice pn (rs ++ [(⟨978944, z4, some ⟨b42, 0, none⟩, 4096, true, false⟩ : RegV)]).length cn, rs ++ [(⟨978944, z4, some ⟨b42, 0, none⟩, 4096, true, false⟩ : RegV)]), by rw [hfin.chk], hw.below (Bg.le.refl _), hw.ents (Bg.le.refl _) (by show Pick _ (cellE b3 [.slice pn (rs ++ [(⟨978944, z4, some ⟨b42, 0, none⟩, 4096, true, false⟩ : RegV)]).length cn, .map (some b2)] 33 :: mapE b2 u8V [] :: rowE (.slice pn (rs ++ [(⟨978944, z4, some ⟨b42, 0, none⟩, 4096, true, false⟩ : RegV)]).length cn) 86 encReg (rs ++ [(⟨978944, z4, some ⟨b42, 0, none⟩, 4096, true, false⟩ : RegV)]) :: regEnts 5 (rs ++ [(⟨978944, z4, some ⟨b42, 0, none⟩, 4096, true, false⟩ : RegV)])); rw [regEnts_snoc]; exact .cons (by repeat constructor) (.cons (by repeat constructor) (.cons (by repeat constructor) (.cons (by repeat constructor) (by repeat (first | exact Pick.refl _ | apply Pick.skip)))))), hfin⟩
   obtain rfl := List.mem_singleton.1 hq
   refine Tr.hOp rfl ?_
   refine Tr.make (E := encU8) 0 (n := 4096) rfl rfl Try.underlying78 HLF.info5 rfl rfl rfl (by decide) rfl (fun b42 => ?_)
   obtain ⟨z4, hz4⟩ : ∃ z : List UInt8, z = List.replicate 4096 0 := ⟨_, rfl⟩
   rw [← hz4]
   refine Tr.hN ?_
   refine Tr.hT 7 rfl (by kernel_rfl) (panicThen panicBody) (QS.build (vs := [(0, _), (1, _), (2, _)]) (cs := (encReg.enc (⟨978944, z4, some ⟨b42, 0, none⟩, 4096, true, false⟩ : RegV)).toArray) rfl rfl (by kernel_rfl)) ?_
   refine Tr.hAll [4, 8] (by kernel_rfl) (by simp) (fun iq hq => ?_)
   rcases List.mem_cons.1 hq with rfl | hq
   ·skip
    refine Tr.hOp rfl ?_
    refine Tr.q (QS.loadV rfl (by repeat constructor) Try.isAgg30 (by rfl)) rfl ?_
    refine Tr.hN ?_
    refine Tr.hAll [8] (by kernel_rfl) (by simp) (fun iq hq => ?_)
    obtain rfl := List.mem_singleton.1 hq
    refine Tr.hOp rfl ?_
    refine Tr.lit1 (E := encReg) (⟨978944, z4, some ⟨b42, 0, none⟩, 4096, true, false⟩ : RegV) rfl rfl Try.underlying30 Try.sizeOf86 Try.zeroValue86 (by rfl) (by rfl) rfl (fun V10 => ?_)
    refine Tr.hN ?_
    refine Tr.hAll [9] (by kernel_rfl) (by simp) (fun iq hq => ?_)
    obtain rfl := List.mem_singleton.1 hq
    refine Tr.hOp rfl ?_
    refine Tr.append1 rfl rfl (by repeat constructor) (by repeat constructor) Try.underlying30 HLF.info86 (by rfl) (by rfl) (by (try simp only [List.length_cons, List.length_nil, List.length_append, List.length_take]); omega) (by unfold maxLen; (try simp only [List.length_cons, List.length_nil, List.length_append, List.length_take]); omega) rfl (fun V44 => ?_)
    refine Tr.rowShape (V := V44) (by repeat constructor) (fun pn cn hpv => ?_)
    subst hpv
    refine Tr.hN ?_
    refine Tr.hT 10 rfl (by kernel_rfl) (panicThen panicBody) (QS.nilCheck rfl) ?_
    refine Tr.hT 11 rfl (by kernel_rfl) (panicThen panicBody) (QS.fieldAddr (off := 0) (ft := 30) rfl Try.underlying33 rfl rfl Try.sizeOf30 (by decide)) ?_
    refine Tr.hAll [12] (by kernel_rfl) (by simp) (fun iq hq => ?_)
    obtain rfl := List.mem_singleton.1 hq
    refine Tr.hOp rfl ?_
    refine Tr.storeV rfl rfl Try.sizeOf30 (by repeat constructor) rfl (by rfl) (by first | exact Nat.le_of_ble_eq_true rfl | simp) (by first | exact List.all_eq_true.1 rfl | (intro u hu; simp [Value.cells] at hu; simp_all [Value.oneCell'])) rfl ?_
    refine Tr.hN ?_
    refine Tr.hDone (by kernel_rfl) ?_
    refine Tr.thenN (Tr.seq (Tr.region ?_))
    refine Tr.q (QS.move rfl) rfl ?_
    refine Tr.q (QS.assign rfl) rfl ?_
    refine Tr.q (QS.assign rfl) rfl ?_
    refine Tr.nil (Tr.thenN (Tr.ret ?_))
    refine Tr.ret2 Try.results9 rfl rfl (fun w' hw => ?_)
    have hfin : MemOK l (rs ++ [(⟨978944, z4, some ⟨b42, 0, none⟩, 4096, true, false⟩ : RegV)]) := ⟨by assumption, by rw [List.map_append, hk2, List.take_of_length_le (by omega), hz4]; rfl⟩
    exact ⟨some (b3, b2, .slice pn (rs ++ [(⟨978944, z4, some ⟨b42, 0, none⟩, 4096, true, false⟩ : RegV)]).length cn, rs ++ [(⟨978944, z4, some ⟨b42, 0, none⟩, 4096, true, false⟩ : RegV)]), by rw [hfin.chk], hw.below (Bg.le.refl _), hw.ents (Bg.le.refl _) (by show Pick _ (cellE b3 [.slice pn (rs ++ [(⟨978944, z4, some ⟨b42, 0, none⟩, 4096, true, false⟩ : RegV)]).length cn, .map (some b2)] 33 :: mapE b2 u8V [] :: rowE (.slice pn (rs ++ [(⟨978944, z4, some ⟨b42, 0, none⟩, 4096, true, false⟩ : RegV)]).length cn) 86 encReg (rs ++ [(⟨978944, z4, some ⟨b42, 0, none⟩, 4096, true, false⟩ : RegV)]) :: regEnts 5 (rs ++ [(⟨978944, z4, some ⟨b42, 0, none⟩, 4096, true, false⟩ : RegV)])); rw [regEnts_snoc]; exact .cons (by repeat constructor) (.cons (by repeat constructor) (.cons (by repeat constructor) (.cons (by repeat constructor) (by repeat (first | exact Pick.refl _ | apply Pick.skip)))))), hfin⟩
   obtain rfl := List.mem_singleton.1 hq
   refine Tr.hOp rfl ?_
   refine Tr.lit1 (E := encReg) (⟨978944, z4, some ⟨b42, 0, none⟩, 4096, true, false⟩ : RegV) rfl rfl Try.underlying30 Try.sizeOf86 Try.zeroValue86 (by rfl) (by rfl) rfl (fun V11 => ?_)
   refine Tr.hN ?_
   refine Tr.hAll [4] (by kernel_rfl) (by simp) (fun iq hq => ?_)
   obtain rfl := List.mem_singleton.1 hq
   refine Tr.hOp rfl ?_
   refine Tr.q (QS.loadV rfl (by repeat constructor) Try.isAgg30 (by rfl)) rfl ?_
   refine Tr.hN ?_
   refine Tr.hAll [9] (by kernel_rfl) (by simp) (fun iq hq => ?_)
   obtain rfl := List.mem_singleton.1 hq
   refine Tr.hOp rfl ?_
   refine Tr.append1 rfl rfl (by repeat constructor) (by repeat constructor) Try.underlying30 HLF.info86 (by rfl) (by rfl) (by (try simp only [List.length_cons, List.length_nil, List.length_append, List.length_take]); omega) (by unfold maxLen; (try simp only [List.length_cons, List.length_nil, List.length_append, List.length_take]); omega) rfl (fun V44 => ?_)
   refine Tr.rowShape (V := V44) (by repeat constructor) (fun pn cn hpv => ?_)
   subst hpv
   refine Tr.hN ?_
   refine Tr.hT 10 rfl (by kernel_rfl) (panicThen panicBody) (QS.nilCheck rfl) ?_
   refine Tr.hT 11 rfl (by kernel_rfl) (panicThen panicBody) (QS.fieldAddr (off := 0) (ft := 30) rfl Try.underlying33 rfl rfl Try.sizeOf30 (by decide)) ?_
   refine Tr.hAll [12] (by kernel_rfl) (by simp) (fun iq hq => ?_)
   obtain rfl := List.mem_singleton.1 hq
   refine Tr.hOp rfl ?_
   refine Tr.storeV rfl rfl Try.sizeOf30 (by repeat constructor) rfl (by rfl) (by first | exact Nat.le_of_ble_eq_true rfl | simp) (by first | exact List.all_eq_true.1 rfl | (intro u hu; simp [Value.cells] at hu; simp_all [Value.oneCell'])) rfl ?_
   refine Tr.hN ?_
   refine Tr.hDone (by kernel_rfl) ?_
   refine Tr.thenN (Tr.seq (Tr.region ?_))
   refine Tr.q (QS.move rfl) rfl ?_
   refine Tr.q (QS.assign rfl) rfl ?_
   refine Tr.q (QS.assign rfl) rfl ?_
   refine Tr.nil (Tr.thenN (Tr.ret ?_))
   refine Tr.ret2 Try.results9 rfl rfl (fun w' hw => ?_)
   have hfin : MemOK l (rs ++ [(⟨978944, z4, some ⟨b42, 0, none⟩, 4096, true, false⟩ : RegV)]) := ⟨by assumption, by rw [List.map_append, hk2, List.take_of_length_le (by omega), hz4]; rfl⟩
   exact ⟨some (b3, b2, .slice pn (rs ++ [(⟨978944, z4, some ⟨b42, 0, none⟩, 4096, true, false⟩ : RegV)]).length cn, rs ++ [(⟨978944, z4, some ⟨b42, 0, none⟩, 4096, true, false⟩ : RegV)]), by rw [hfin.chk], hw.below (Bg.le.refl _), hw.ents (Bg.le.refl _) (by show Pick _ (cellE b3 [.slice pn (rs ++ [(⟨978944, z4, some ⟨b42, 0, none⟩, 4096, true, false⟩ : RegV)]).length cn, .map (some b2)] 33 :: mapE b2 u8V [] :: rowE (.slice pn (rs ++ [(⟨978944, z4, some ⟨b42, 0, none⟩, 4096, true, false⟩ : RegV)]).length cn) 86 encReg (rs ++ [(⟨978944, z4, some ⟨b42, 0, none⟩, 4096, true, false⟩ : RegV)]) :: regEnts 5 (rs ++ [(⟨978944, z4, some ⟨b42, 0, none⟩, 4096, true, false⟩ : RegV)])); rw [regEnts_snoc]; exact .cons (by repeat constructor) (.cons (by repeat constructor) (.cons (by repeat constructor) (.cons (by repeat constructor) (by repeat (first | exact Pick.refl _ | apply Pick.skip)))))), hfin⟩
end Go.Proofs.Ytpeaodkfbjenpaa
namespace Go.HL
open Go Go.RowKit
theorem sgn_bit (a : UInt32) : sgnP a = a.toBitVec.msb := by
  rw [BitVec.msb_eq_decide]
  unfold sgnP
  rw [decide_eq_decide, UInt32.le_iff_toNat_le]
  rfl
theorem sgn_and (a : UInt32) : decide (a &&& 2147483648 ≠ 0) = sgnP a := by
  rw [sgn_bit]
  have h : (a &&& 2147483648 ≠ 0) ↔ a.toBitVec.msb = true := by
    rw [ne_eq, ← UInt32.toBitVec_inj, UInt32.toBitVec_and]
    have e : (2147483648 : UInt32).toBitVec = BitVec.ofNat 32 2147483648 := rfl
    have e0 : (0 : UInt32).toBitVec = 0#32 := rfl
    rw [e, e0]
    constructor
    · intro h
      rw [← Bool.not_eq_false]
      intro hm
      refine h (BitVec.eq_of_getLsbD_eq fun i hi => ?_)
      rw [BitVec.getLsbD_and, BitVec.getLsbD_zero]
      by_cases c : i = 31
      · subst c
        rw [BitVec.msb_eq_getLsbD_last] at hm
        have hm' : a.toBitVec.getLsbD 31 = false := hm
        rw [hm']; rfl
      · have : (BitVec.ofNat 32 2147483648).getLsbD i = false := by
          rw [BitVec.getLsbD_ofNat, show (2147483648 : Nat) = 2 ^ 31 from rfl, Nat.testBit_two_pow]
          have : ¬ 31 = i := fun q => c q.symm
          simp [this]
        rw [this, Bool.and_false]
    · intro h hz
      have h1 := congrArg (fun x => BitVec.getLsbD x 31) hz
      simp only [BitVec.getLsbD_and, BitVec.getLsbD_zero] at h1
      rw [BitVec.msb_eq_getLsbD_last] at h
      have h' : a.toBitVec.getLsbD 31 = true := h
      rw [h'] at h1
      exact absurd h1 (by decide)
  by_cases c : a.toBitVec.msb = true
  · rw [c]; exact decide_eq_true (h.2 c)
  · rw [Bool.not_eq_true] at c
    rw [c]; exact decide_eq_false (fun q => by rw [h.1 q] at c; cases c)
theorem sgn_xor (a b : UInt32) : sgnP (a ^^^ b) = (sgnP a ^^ sgnP b) := by
  rw [sgn_bit, sgn_bit, sgn_bit, UInt32.toBitVec_xor, BitVec.msb_xor]
theorem sgn_and2 (a b : UInt32) : sgnP (a &&& b) = (sgnP a && sgnP b) := by
  rw [sgn_bit, sgn_bit, sgn_bit, UInt32.toBitVec_and, BitVec.msb_and]
theorem add_v (a b n : UInt32) : decide ((a ^^^ n) &&& (b ^^^ n) &&& 2147483648 ≠ 0) = (decide (sgnP a = sgnP b) && decide (sgnP n ≠ sgnP a)) := by
  rw [sgn_and, sgn_and2, sgn_xor, sgn_xor]
  cases sgnP a <;> cases sgnP b <;> cases sgnP n <;> rfl
theorem sub_v (a b n : UInt32) : decide ((a ^^^ b) &&& (a ^^^ n) &&& 2147483648 ≠ 0) = (decide (sgnP a ≠ sgnP b) && decide (sgnP n ≠ sgnP a)) := by
  rw [sgn_and, sgn_and2, sgn_xor, sgn_xor]
  cases sgnP a <;> cases sgnP b <;> cases sgnP n <;> rfl
theorem cnt_and (n : UInt32) : (n &&& 31).toNat = cntP n := by
  unfold cntP
  rw [UInt32.toNat_and, UInt32.toNat_mod]
  exact Nat.and_two_pow_sub_one_eq_mod n.toNat 5
theorem cnt_lt (n : UInt32) : cntP n < 32 := by
  unfold cntP
  rw [UInt32.toNat_mod]
  exact Nat.mod_lt _ (by decide)
theorem held_get {f : Flg} {cc : Int} (h : 0 ≤ cc ∧ cc < 15) {o : Nat} (ho : o = cc.toNat) {l : Bool} (hl : l = decide (f.n ≠ f.v)) :
    ([.bool true, .bool f.z, .bool (!f.z), .bool l, .bool (!l), .bool (f.z || l), .bool (!f.z && !l), .bool f.c, .bool (!f.c), .bool (f.c || f.z), .bool (!f.c && !f.z), .bool f.n, .bool (!f.n), .bool f.v, .bool (!f.v)] : List Value)[o]? = some (.bool (holdsP cc f)) := by
  subst hl ho
  obtain ⟨z, n, c, v⟩ := f
  have hk : cc = 0 ∨ cc = 1 ∨ cc = 2 ∨ cc = 3 ∨ cc = 4 ∨ cc = 5 ∨ cc = 6 ∨ cc = 7 ∨ cc = 8 ∨ cc = 9 ∨ cc = 10 ∨ cc = 11 ∨ cc = 12 ∨ cc = 13 ∨ cc = 14 := by omega
  rcases hk with rfl | rfl | rfl | rfl | rfl | rfl | rfl | rfl | rfl | rfl | rfl | rfl | rfl | rfl | rfl <;> cases z <;> cases n <;> cases c <;> cases v <;> rfl
theorem holds_out {cc : Int} {f : Flg} (h : ¬ (0 ≤ cc ∧ cc < 15)) : holdsP cc f = false := by
  unfold holdsP
  repeat rw [if_neg (by omega)]
theorem bin_get {a b : UInt32} {op : Int} (h : ¬ (op < 3 ∨ 15 < op)) {o : Nat} (ho : o = (op - 3).toNat) :
    ([.int .u32 (a + b).toNat, .int .u32 (a - b).toNat, .int .u32 (a * b).toNat, .int .u32 (a &&& b).toNat, .int .u32 (a ||| b).toNat, .int .u32 (a ^^^ b).toNat, .int .u32 (shl32 a (cntP b)).toNat, .int .u32 (shr32 a (cntP b)).toNat, .int .u32 (sarP a (cntP b)).toNat,
      .int .u32 (num01 (decide (a = b))).toNat, .int .u32 (num01 (decide (a ≠ b))).toNat, .int .u32 (num01 (lowSgn a b)).toNat, .int .u32 (num01 (decide (a < b))).toNat] : List Value)[o]? = some (.int .u32 (binP op a b).toNat) := by
  subst ho
  have hk : op = 3 ∨ op = 4 ∨ op = 5 ∨ op = 6 ∨ op = 7 ∨ op = 8 ∨ op = 9 ∨ op = 10 ∨ op = 11 ∨ op = 12 ∨ op = 13 ∨ op = 14 ∨ op = 15 := by omega
  rcases hk with rfl | rfl | rfl | rfl | rfl | rfl | rfl | rfl | rfl | rfl | rfl | rfl | rfl <;> rfl
theorem opx_get {op : Int} (h : 8 ≤ op ∧ op ≤ 14) {o : Nat} (ho : o = (op - 8).toNat) : ([.int .i64 6, .int .i64 7, .int .i64 8, .int .i64 5, .int .i64 9, .int .i64 10, .int .i64 11] : List Value)[o]? = some (.int .i64 (aluP.opX op)) := by
  subst ho
  have hk : op = 8 ∨ op = 9 ∨ op = 10 ∨ op = 11 ∨ op = 12 ∨ op = 13 ∨ op = 14 := by omega
  rcases hk with rfl | rfl | rfl | rfl | rfl | rfl | rfl <;> rfl
section
variable {P : Program} {N : Nat} {F : Bg} {L : List Ent} {M : Fr}
theorem Tr.retTC {fn : Func} {R : Ending → World → Prop} {t T : TypeId} {u s : Tmp} {v : Value} {b k : Nat} {cs : List Value} (hr : fn.results = #[.tmp s, .cell u t]) (hs : look M s = some v) (hv : look M u = some (.pointer (some ⟨b, 0, none⟩))) (hm : cellE b cs T ∈ L)
    (hagg : ∀ w, (isAgg t).run P w = .ok true w) (hz : ∀ w, (sizeOf t).run P w = .ok k w) (hl : cs.length = k) (h : ∀ w, HpOK F L w → R (.returned (.tuple #[v, .agg cs.toArray])) w) (hD : look M mk0 = some undef := by rfl) :
    Tr N F L M (bodyPost P fn R .ret) := fun a w ha hw => ⟨ha.defers0 hD, _, by
      have h1 := ha.val u _ hv
      have h2 := ha.val s _ hs
      rw [Array.getD_eq_getD_getElem?] at h1 h2
      simp [results, hr, h1, h2, asAddr, run_cellAgg (hw.ent _ hm) hagg hz hl], h w hw⟩
end
def St.setR (s : St) (k : Int) (x : UInt32) : St := { s with m := s.m.set k x }
def St.to (s : St) (p : UInt32) : St := { s with m := s.m.to p }
def St.setF (s : St) (f : Flg) : St := { s with m := { s.m with f := f } }
def cpuT (s : St) (bM : Nat) (vi vo eff : Value) : List Value := [.pointer (some ⟨bM, 0, none⟩), vi, .int .i64 (s.read : Nat), vo, .bool s.done, .int .i64 s.err, eff]
def cpuC (s : St) (bM : Nat) (vi vo eff : Value) : List Value := encMach.enc s.m ++ cpuT s bM vi vo eff
section
variable {s : St} {bM : Nat} {vi vo eff : Value}
theorem cpuC_reg {k : Int} (hk : 0 ≤ k ∧ k < 8) {o : Nat} (ho : o = k.toNat) : (cpuC s bM vi vo eff)[o]? = some (.int .u32 (s.m.reg k).toNat) := by
  subst ho
  unfold cpuC
  rw [List.getElem?_append_left (by show k.toNat < 13; omega)]
  exact s.m.reg_cell hk
theorem cpuC_set {k : Int} (hk : 0 ≤ k ∧ k < 8) {o : Nat} (ho : o = k.toNat) (x : UInt32) : splice (cpuC s bM vi vo eff) o [.int .u32 x.toNat] = cpuC (s.setR k x) bM vi vo eff := by
  subst ho
  exact s.m.set_cells hk x _
theorem cpuC_to (p : UInt32) : splice (cpuC s bM vi vo eff) 8 [.int .u32 p.toNat] = cpuC (s.to p) bM vi vo eff := rfl
theorem cpuC_flg (f : Flg) : splice (cpuC s bM vi vo eff) 9 (encFlg.enc f) = cpuC (s.setF f) bM vi vo eff := rfl
theorem cpuC_len : (cpuC s bM vi vo eff).length = 20 := rfl
end
/-- What the program has of a processor: where its input lies, its memory. -/
structure CpuAt (h : Hp) (bM bm : Nat) (VR vi : Value) (rs : List RegV) (inp : List UInt32) : Prop where
  mem : MemAt h bM bm VR rs
  inp : Sl h encU32 inp vi
theorem CpuAt.mono {h h' : Hp} {bM bm : Nat} {VR vi : Value} {rs : List RegV} {inp : List UInt32} (m : CpuAt h bM bm VR vi rs inp) (hh : Hp.le h h') : CpuAt h' bM bm VR vi rs inp := ⟨m.mem.mono hh, m.inp.mono hh⟩
end Go.HL
namespace Go.Proofs.Ytpeaodkfbjenpaa
open Go Go.HL Go.RowKit
set_option maxRecDepth 100000 in
set_option maxHeartbeats 2000000 in
theorem zn_bits (a : UInt32) (w : World) :
  Calls Try.prog 47 #[.int .u32 a.toNat] w (fun e w' => e = .returned (.agg (encFlg.enc (logF a)).toArray) ∧ Ext w w') := by
 refine enter Try.func47 rfl Try.ntmps47 rfl ?_
 refine Tr.seq (Tr.region ?_)
 refine Tr.alloc Try.zeroValue40 rfl rfl (fun b1 => ?_)
 refine Tr.nil (Tr.thenN (Tr.seq (Tr.region ?_)))
 refine Tr.q (QS.move rfl) rfl ?_
 refine Tr.q (QS.eql32 (n := 0) rfl rfl) rfl ?_
 refine Tr.q (QS.move rfl) rfl ?_
 refine Tr.q (QS.and32 (n := 2147483648) rfl rfl) rfl ?_
 refine Tr.q (QS.neq32 (n := 0) rfl rfl) rfl ?_
 refine Tr.q (QS.build (vs := [(0, _), (1, _)]) rfl rfl (HLF.built40_0_1 _ _)) rfl ?_
 refine Tr.storeW rfl rfl Try.sizeOf40 (by repeat constructor) (by rfl) (by rfl) (by first | exact List.all_eq_true.1 rfl | exact Enc.one _ _ | exact Enc.one encFlg _) rfl ?_
 refine Tr.nil (Tr.thenN (Tr.ret ?_))
 refine Tr.retC1 Try.results47 rfl (by repeat constructor) Try.isAgg40 Try.sizeOf40 (by rfl) (fun w' hw => ?_)
 exact ⟨by rw [sgn_and]; rfl, hw.below (Bg.le.refl _)⟩
set_option maxRecDepth 100000 in
set_option maxHeartbeats 2000000 in
theorem logic_bits (a : UInt32) (w : World) :
  Calls Try.prog 23 #[.int .u32 a.toNat] w (fun e w' => e = .returned (.agg (encFlg.enc (logF a)).toArray) ∧ Ext w w') := by
 refine enter Try.func23 rfl Try.ntmps23 rfl ?_
 refine Tr.seq (Tr.region ?_)
 refine Tr.alloc Try.zeroValue40 rfl rfl (fun b1 => ?_)
 refine Tr.nil (Tr.thenN (Tr.seq (Tr.region ?_)))
 refine Tr.q (QS.move rfl) rfl ?_
 refine Tr.q (QS.call rfl Try.call47 (fun w hw => zn_bits a w)) rfl ?_
 refine Tr.storeW rfl rfl Try.sizeOf40 (by repeat constructor) (by rfl) (by rfl) (by first | exact List.all_eq_true.1 rfl | exact Enc.one _ _ | exact Enc.one encFlg _) rfl ?_
 refine Tr.nil (Tr.thenN (Tr.ret ?_))
 refine Tr.retC1 Try.results23 rfl (by repeat constructor) Try.isAgg40 Try.sizeOf40 (by rfl) (fun w' hw => ?_)
 exact ⟨rfl, hw.below (Bg.le.refl _)⟩
set_option maxRecDepth 100000 in
set_option maxHeartbeats 2000000 in
theorem add_bits (a b : UInt32) (w : World) :
  Calls Try.prog 24 #[.int .u32 a.toNat, .int .u32 b.toNat] w (fun e w' => e = .returned (.tuple #[.int .u32 (a + b).toNat, .agg (encFlg.enc (addF a b)).toArray]) ∧ Ext w w') := by
 refine enter Try.func24 rfl Try.ntmps24 rfl ?_
 refine Tr.seq (Tr.region ?_)
 refine Tr.q (QS.assign rfl) rfl ?_
 refine Tr.alloc Try.zeroValue40 rfl rfl (fun b1 => ?_)
 refine Tr.nil (Tr.thenN (Tr.seq (Tr.region ?_)))
 refine Tr.q (QS.move rfl) rfl ?_
 refine Tr.q (QS.move rfl) rfl ?_
 refine Tr.q (QS.add32 rfl rfl) rfl ?_
 refine Tr.q (QS.assign rfl) rfl ?_
 refine Tr.nil (Tr.thenN (Tr.seq (Tr.region ?_)))
 refine Tr.q (QS.move rfl) rfl ?_
 refine Tr.q (QS.call rfl Try.call47 (fun w hw => zn_bits (a + b) w)) rfl ?_
 refine Tr.alloc Try.zeroValue40 rfl rfl (fun b2 => ?_)
 refine Tr.storeW rfl rfl Try.sizeOf40 (by repeat constructor) (by rfl) (by rfl) (by first | exact List.all_eq_true.1 rfl | exact Enc.one _ _ | exact Enc.one encFlg _) rfl ?_
 refine Tr.nil (Tr.thenN (Tr.seq (Tr.region ?_)))
 refine Tr.q (QS.move rfl) rfl ?_
 refine Tr.q (QS.move rfl) rfl ?_
 refine Tr.q (QS.lss32 rfl rfl) rfl ?_
 refine Tr.q (QS.fieldAddr (off := 2) (ft := 4) rfl Try.underlying40 rfl rfl Try.sizeOf4 (by decide)) rfl ?_
 refine Tr.storeV (cs' := [_, _, _, _]) rfl rfl Try.sizeOf4 (by repeat constructor) rfl (by rfl) (by first | exact Nat.le_of_ble_eq_true rfl | simp) (by first | exact List.all_eq_true.1 rfl | (intro u hu; simp [Value.cells] at hu; simp_all [Value.oneCell'])) rfl ?_
 refine Tr.nil (Tr.thenN (Tr.seq (Tr.region ?_)))
 refine Tr.q (QS.move rfl) rfl ?_
 refine Tr.q (QS.move rfl) rfl ?_
 refine Tr.q (QS.xor32 rfl rfl) rfl ?_
 refine Tr.q (QS.move rfl) rfl ?_
 refine Tr.q (QS.move rfl) rfl ?_
 refine Tr.q (QS.xor32 rfl rfl) rfl ?_
 refine Tr.q (QS.and32 rfl rfl) rfl ?_
 refine Tr.q (QS.and32 (n := 2147483648) rfl rfl) rfl ?_
 refine Tr.q (QS.neq32 (n := 0) rfl rfl) rfl ?_
 refine Tr.q (QS.fieldAddr (off := 3) (ft := 4) rfl Try.underlying40 rfl rfl Try.sizeOf4 (by decide)) rfl ?_
 refine Tr.storeV (cs' := [_, _, _, _]) rfl rfl Try.sizeOf4 (by repeat constructor) rfl (by rfl) (by first | exact Nat.le_of_ble_eq_true rfl | simp) (by first | exact List.all_eq_true.1 rfl | (intro u hu; simp [Value.cells] at hu; simp_all [Value.oneCell'])) rfl ?_
 refine Tr.nil (Tr.thenN (Tr.seq ?_))
 refine Tr.regionH ([cellE b2 [.bool (decide (a + b = 0)), .bool (sgnP (a + b)), .bool (decide (a + b < a)), .bool (decide ((a ^^^ (a + b)) &&& (b ^^^ (a + b)) &&& 2147483648 ≠ 0))] 40]) 4 rfl HLF.mixed ?_
 refine Tr.hT 0 rfl (by kernel_rfl) (panicThen panicBody) (QS.move rfl) ?_
 refine Tr.hT 1 rfl (by kernel_rfl) (panicThen panicBody) (QS.lW rfl Try.isAgg40 Try.sizeOf40) ?_
 refine Tr.hT 2 rfl (by kernel_rfl) (panicThen panicBody) (QS.assign rfl) ?_
 refine Tr.hAll [3] (by kernel_rfl) (by simp) (fun iq hq => ?_)
 obtain rfl := List.mem_singleton.1 hq
 refine Tr.hOp rfl ?_
 refine Tr.storeW rfl rfl Try.sizeOf40 (by repeat constructor) (by rfl) (by rfl) (by first | exact List.all_eq_true.1 rfl | exact Enc.one _ _ | exact Enc.one encFlg _) rfl ?_
 refine Tr.hN ?_
 refine Tr.hDone (by kernel_rfl) ?_
 refine Tr.thenN (Tr.ret ?_)
 refine Tr.retTC Try.results24 rfl rfl (by repeat constructor) Try.isAgg40 Try.sizeOf40 (by rfl) (fun w' hw => ?_)
 exact ⟨by rw [add_v]; rfl, hw.below (Bg.le.refl _)⟩
set_option maxRecDepth 100000 in
set_option maxHeartbeats 2000000 in
theorem sub_bits (a b : UInt32) (w : World) :
  Calls Try.prog 25 #[.int .u32 a.toNat, .int .u32 b.toNat] w (fun e w' => e = .returned (.tuple #[.int .u32 (a - b).toNat, .agg (encFlg.enc (subF a b)).toArray]) ∧ Ext w w') := by
 refine enter Try.func25 rfl Try.ntmps25 rfl ?_
 refine Tr.seq (Tr.region ?_)
 refine Tr.q (QS.assign rfl) rfl ?_
 refine Tr.alloc Try.zeroValue40 rfl rfl (fun b1 => ?_)
 refine Tr.nil (Tr.thenN (Tr.seq (Tr.region ?_)))
 refine Tr.q (QS.move rfl) rfl ?_
 refine Tr.q (QS.move rfl) rfl ?_
 refine Tr.q (QS.sub32 rfl rfl) rfl ?_
 refine Tr.q (QS.assign rfl) rfl ?_
 refine Tr.nil (Tr.thenN (Tr.seq (Tr.region ?_)))
 refine Tr.q (QS.move rfl) rfl ?_
 refine Tr.q (QS.call rfl Try.call47 (fun w hw => zn_bits (a - b) w)) rfl ?_
 refine Tr.alloc Try.zeroValue40 rfl rfl (fun b2 => ?_)
 refine Tr.storeW rfl rfl Try.sizeOf40 (by repeat constructor) (by rfl) (by rfl) (by first | exact List.all_eq_true.1 rfl | exact Enc.one _ _ | exact Enc.one encFlg _) rfl ?_
 refine Tr.nil (Tr.thenN (Tr.seq (Tr.region ?_)))
 refine Tr.q (QS.move rfl) rfl ?_
 refine Tr.q (QS.move rfl) rfl ?_
 refine Tr.q (QS.lss32 rfl rfl) rfl ?_
 refine Tr.q (QS.fieldAddr (off := 2) (ft := 4) rfl Try.underlying40 rfl rfl Try.sizeOf4 (by decide)) rfl ?_
 refine Tr.storeV (cs' := [_, _, _, _]) rfl rfl Try.sizeOf4 (by repeat constructor) rfl (by rfl) (by first | exact Nat.le_of_ble_eq_true rfl | simp) (by first | exact List.all_eq_true.1 rfl | (intro u hu; simp [Value.cells] at hu; simp_all [Value.oneCell'])) rfl ?_
 refine Tr.nil (Tr.thenN (Tr.seq (Tr.region ?_)))
 refine Tr.q (QS.move rfl) rfl ?_
 refine Tr.q (QS.move rfl) rfl ?_
 refine Tr.q (QS.xor32 rfl rfl) rfl ?_
 refine Tr.q (QS.move rfl) rfl ?_
 refine Tr.q (QS.move rfl) rfl ?_
 refine Tr.q (QS.xor32 rfl rfl) rfl ?_
 refine Tr.q (QS.and32 rfl rfl) rfl ?_
 refine Tr.q (QS.and32 (n := 2147483648) rfl rfl) rfl ?_
 refine Tr.q (QS.neq32 (n := 0) rfl rfl) rfl ?_
 refine Tr.q (QS.fieldAddr (off := 3) (ft := 4) rfl Try.underlying40 rfl rfl Try.sizeOf4 (by decide)) rfl ?_
 refine Tr.storeV (cs' := [_, _, _, _]) rfl rfl Try.sizeOf4 (by repeat constructor) rfl (by rfl) (by first | exact Nat.le_of_ble_eq_true rfl | simp) (by first | exact List.all_eq_true.1 rfl | (intro u hu; simp [Value.cells] at hu; simp_all [Value.oneCell'])) rfl ?_
 refine Tr.nil (Tr.thenN (Tr.seq ?_))
 refine Tr.regionH ([cellE b2 [.bool (decide (a - b = 0)), .bool (sgnP (a - b)), .bool (decide (a < b)), .bool (decide ((a ^^^ b) &&& (a ^^^ (a - b)) &&& 2147483648 ≠ 0))] 40]) 4 rfl HLF.mixed ?_
 refine Tr.hT 0 rfl (by kernel_rfl) (panicThen panicBody) (QS.move rfl) ?_
 refine Tr.hT 1 rfl (by kernel_rfl) (panicThen panicBody) (QS.lW rfl Try.isAgg40 Try.sizeOf40) ?_
 refine Tr.hT 2 rfl (by kernel_rfl) (panicThen panicBody) (QS.assign rfl) ?_
 refine Tr.hAll [3] (by kernel_rfl) (by simp) (fun iq hq => ?_)
 obtain rfl := List.mem_singleton.1 hq
 refine Tr.hOp rfl ?_
 refine Tr.storeW rfl rfl Try.sizeOf40 (by repeat constructor) (by rfl) (by rfl) (by first | exact List.all_eq_true.1 rfl | exact Enc.one _ _ | exact Enc.one encFlg _) rfl ?_
 refine Tr.hN ?_
 refine Tr.hDone (by kernel_rfl) ?_
 refine Tr.thenN (Tr.ret ?_)
 refine Tr.retTC Try.results25 rfl rfl (by repeat constructor) Try.isAgg40 Try.sizeOf40 (by rfl) (fun w' hw => ?_)
 exact ⟨by rw [sub_v]; rfl, hw.below (Bg.le.refl _)⟩
set_option maxRecDepth 100000 in
set_option maxHeartbeats 2000000 in
theorem shl_bits (a b : UInt32) (w : World) :
  Calls Try.prog 43 #[.int .u32 a.toNat, .int .u32 b.toNat] w (fun e w' => e = .returned (.int .u32 (shl32 a (cntP b)).toNat) ∧ Ext w w') := by
 refine enter Try.func43 rfl Try.ntmps43 rfl ?_
 refine Tr.seq (Tr.region ?_)
 refine Tr.q (QS.assign rfl) rfl ?_
 refine Tr.nil (Tr.thenN (Tr.seq (Tr.region ?_)))
 refine Tr.q (QS.move rfl) rfl ?_
 refine Tr.q (QS.move rfl) rfl ?_
 refine Tr.q (QS.and32 (n := 31) rfl rfl) rfl ?_
 refine Tr.q (QS.shl32 rfl rfl (by omega)) rfl ?_
 refine Tr.q (QS.assign rfl) rfl ?_
 refine Tr.nil (Tr.thenN (Tr.ret ?_))
 refine Tr.ret1 Try.results43 rfl (fun w' hw => ?_)
 exact ⟨by rw [← cnt_and]; rfl, hw.below (Bg.le.refl _)⟩
set_option maxRecDepth 100000 in
set_option maxHeartbeats 2000000 in
theorem shr_bits (a b : UInt32) (w : World) :
  Calls Try.prog 44 #[.int .u32 a.toNat, .int .u32 b.toNat] w (fun e w' => e = .returned (.int .u32 (shr32 a (cntP b)).toNat) ∧ Ext w w') := by
 refine enter Try.func44 rfl Try.ntmps44 rfl ?_
 refine Tr.seq (Tr.region ?_)
 refine Tr.q (QS.assign rfl) rfl ?_
 refine Tr.nil (Tr.thenN (Tr.seq (Tr.region ?_)))
 refine Tr.q (QS.move rfl) rfl ?_
 refine Tr.q (QS.move rfl) rfl ?_
 refine Tr.q (QS.and32 (n := 31) rfl rfl) rfl ?_
 refine Tr.q (QS.shr32 rfl rfl (by omega)) rfl ?_
 refine Tr.q (QS.assign rfl) rfl ?_
 refine Tr.nil (Tr.thenN (Tr.ret ?_))
 refine Tr.ret1 Try.results44 rfl (fun w' hw => ?_)
 exact ⟨by rw [← cnt_and]; rfl, hw.below (Bg.le.refl _)⟩
set_option maxRecDepth 100000 in
set_option maxHeartbeats 2000000 in
theorem sar_bits (a b : UInt32) (w : World) :
  Calls Try.prog 45 #[.int .u32 a.toNat, .int .u32 b.toNat] w (fun e w' => e = .returned (.int .u32 (sarP a (cntP b)).toNat) ∧ Ext w w') := by
 refine enter Try.func45 rfl Try.ntmps45 rfl ?_
 refine Tr.seq (Tr.region ?_)
 refine Tr.q (QS.assign rfl) rfl ?_
 refine Tr.nil (Tr.thenN (Tr.seq (Tr.region ?_)))
 refine Tr.q (QS.move rfl) rfl ?_
 refine Tr.q (QS.cvt rfl Try.underlying22 Try.underlying21) rfl ?_
 refine Tr.q (QS.move rfl) rfl ?_
 refine Tr.q (QS.and32 (n := 31) rfl rfl) rfl ?_
 refine Tr.q (QS.shr rfl rfl (Int.natCast_nonneg _)) rfl ?_
 refine Tr.q (QS.cvtTo32 rfl Try.underlying21 Try.underlying22) rfl ?_
 refine Tr.q (QS.assign rfl) rfl ?_
 refine Tr.nil (Tr.thenN (Tr.ret ?_))
 refine Tr.ret1 Try.results45 rfl (fun w' hw => ?_)
 exact ⟨by unfold sarP; rw [← cnt_and, Int.toNat_natCast, Nat.min_eq_left (by rw [cnt_and]; exact Nat.le_of_lt (cnt_lt b))], hw.below (Bg.le.refl _)⟩
set_option maxRecDepth 100000 in
set_option maxHeartbeats 2000000 in
theorem truth_bits (x : Bool) (w : World) :
  Calls Try.prog 46 #[.bool x] w (fun e w' => e = .returned (.int .u32 (num01 x).toNat) ∧ Ext w w') := by
 refine enter Try.func46 rfl Try.ntmps46 rfl ?_
 refine Tr.seq (Tr.region ?_)
 refine Tr.q (QS.assign rfl) rfl ?_
 refine Tr.nil (Tr.thenN (Tr.seq (Tr.seq (Tr.region ?_))))
 refine Tr.q (QS.move rfl) rfl ?_
 refine Tr.nil (Tr.thenN ?_)
 refine Tr.cond rfl (fun h1 => ?_) (fun h1 => ?_)
 ·try simp only [bs] at h1
  refine Tr.seq (Tr.region ?_)
  refine Tr.q (QS.assign rfl) rfl ?_
  refine Tr.nil (Tr.thenN (Tr.ret (Tr.thenR ?_)))
  refine Tr.ret1 Try.results46 rfl (fun w' hw => ?_)
  exact ⟨by rw [show x = true by assumption]; rfl, hw.below (Bg.le.refl _)⟩
 ·try simp only [bs] at h1
  refine Tr.skip (Tr.thenN (Tr.seq (Tr.region ?_)))
  refine Tr.q (QS.assign rfl) rfl ?_
  refine Tr.nil (Tr.thenN (Tr.ret ?_))
  refine Tr.ret1 Try.results46 rfl (fun w' hw => ?_)
  exact ⟨by rw [show x = false by simp_all]; rfl, hw.below (Bg.le.refl _)⟩
set_option maxRecDepth 100000 in
set_option maxHeartbeats 4000000 in
theorem holds_bits (cc : Int) (f : Flg) (w : World) :
  Calls Try.prog 89 #[.int .i64 cc, .agg (encFlg.enc f).toArray] w (fun e w' => e = .returned (.bool (holdsP cc f)) ∧ Ext w w') := by
 refine enter Try.func89 rfl Try.ntmps89 rfl ?_
 refine Tr.seq (Tr.region ?_)
 refine Tr.box rfl rfl rfl (fun b1 => ?_)
 refine Tr.q (QS.assign rfl) rfl ?_
 refine Tr.nil (Tr.thenN (Tr.seq (Tr.region ?_)))
 refine Tr.q (QS.fieldAddr (off := 1) (ft := 4) rfl Try.underlying40 rfl rfl Try.sizeOf4 (by decide)) rfl ?_
 refine Tr.q (QS.lV rfl Try.isAgg4) rfl ?_
 refine Tr.q (QS.fieldAddr (off := 3) (ft := 4) rfl Try.underlying40 rfl rfl Try.sizeOf4 (by decide)) rfl ?_
 refine Tr.q (QS.lV rfl Try.isAgg4) rfl ?_
 refine Tr.q (QS.bool_neq rfl rfl Try.underlying4) rfl ?_
 refine Tr.q (QS.assign rfl) rfl ?_
 refine Tr.nil (Tr.thenN (Tr.seq (Tr.region ?_)))
 refine Tr.q (QS.fieldAddr (off := 0) (ft := 4) rfl Try.underlying40 rfl rfl Try.sizeOf4 (by decide)) rfl ?_
 refine Tr.q (QS.lV rfl Try.isAgg4) rfl ?_
 refine Tr.q (QS.fieldAddr (off := 0) (ft := 4) rfl Try.underlying40 rfl rfl Try.sizeOf4 (by decide)) rfl ?_
 refine Tr.q (QS.lV rfl Try.isAgg4) rfl ?_
 refine Tr.q (QS.not rfl) rfl ?_
 refine Tr.q (QS.move rfl) rfl ?_
 refine Tr.q (QS.move rfl) rfl ?_
 refine Tr.q (QS.not rfl) rfl ?_
 refine Tr.q (QS.fieldAddr (off := 0) (ft := 4) rfl Try.underlying40 rfl rfl Try.sizeOf4 (by decide)) rfl ?_
 refine Tr.q (QS.lV rfl Try.isAgg4) rfl ?_
 refine Tr.q (QS.move rfl) rfl ?_
 apply Tr.orP
 ·exact (rfl : _ = (2, 22, 24))
 ·exact rfl
 ·intro hF2; have hF2' := hF2
  try simp only [bs] at hF2'
  refine Tr.gq rfl rfl hF2 (QS.move rfl) rfl ?_
  refine Tr.q (QS.pickF rfl hF2 rfl) rfl ?_
  refine Tr.nil (Tr.thenN ?_)
  exact Tr.endX (Sub.cons rfl (Sub.dropN 2 (by kernel_rfl) rfl))
 ·intro hT2
  refine Tr.gskip rfl rfl hT2 rfl ?_
  refine Tr.q (QS.pickT rfl hT2 rfl) rfl ?_
  refine Tr.nil (Tr.thenN ?_)
  exact Tr.endX (Sub.cons rfl (Sub.dropN 2 (by kernel_rfl) rfl))
 refine Tr.q (QS.fieldAddr (off := 0) (ft := 4) rfl Try.underlying40 rfl rfl Try.sizeOf4 (by decide)) rfl ?_
 refine Tr.q (QS.lV rfl Try.isAgg4) rfl ?_
 refine Tr.q (QS.not rfl) rfl ?_
 refine Tr.q (QS.move rfl) rfl ?_
 apply Tr.andP
 ·exact (rfl : _ = (3, 28, 31))
 ·exact rfl
 ·intro hT3; have hT3' := hT3
  try simp only [bs] at hT3'
  refine Tr.gq rfl rfl hT3 (QS.move rfl) rfl ?_
  refine Tr.gq rfl rfl hT3 (QS.not rfl) rfl ?_
  refine Tr.q (QS.pickT rfl hT3 rfl) rfl ?_
  refine Tr.nil (Tr.thenN ?_)
  exact Tr.endX (Sub.cons rfl (Sub.dropN 3 (by kernel_rfl) rfl))
 ·intro hF3
  refine Tr.gskip rfl rfl hF3 rfl ?_
  refine Tr.gskip rfl rfl hF3 rfl ?_
  refine Tr.q (QS.pickF rfl hF3 rfl) rfl ?_
  refine Tr.nil (Tr.thenN ?_)
  exact Tr.endX (Sub.cons rfl (Sub.dropN 3 (by kernel_rfl) rfl))
 refine Tr.q (QS.fieldAddr (off := 2) (ft := 4) rfl Try.underlying40 rfl rfl Try.sizeOf4 (by decide)) rfl ?_
 refine Tr.q (QS.lV rfl Try.isAgg4) rfl ?_
 refine Tr.q (QS.fieldAddr (off := 2) (ft := 4) rfl Try.underlying40 rfl rfl Try.sizeOf4 (by decide)) rfl ?_
 refine Tr.q (QS.lV rfl Try.isAgg4) rfl ?_
 refine Tr.q (QS.not rfl) rfl ?_
 refine Tr.q (QS.fieldAddr (off := 2) (ft := 4) rfl Try.underlying40 rfl rfl Try.sizeOf4 (by decide)) rfl ?_
 refine Tr.q (QS.lV rfl Try.isAgg4) rfl ?_
 refine Tr.q (QS.move rfl) rfl ?_
 apply Tr.orP
 ·exact (rfl : _ = (3, 39, 42))
 ·exact rfl
 ·intro hF4; have hF4' := hF4
  try simp only [bs] at hF4'
  refine Tr.gq rfl rfl hF4 (QS.fieldAddr (off := 0) (ft := 4) rfl Try.underlying40 rfl rfl Try.sizeOf4 (by decide)) rfl ?_
  refine Tr.gq rfl rfl hF4 (QS.lV rfl Try.isAgg4) rfl ?_
  refine Tr.q (QS.pickF rfl hF4 rfl) rfl ?_
  refine Tr.nil (Tr.thenN ?_)
  exact Tr.endX (Sub.cons rfl (Sub.dropN 3 (by kernel_rfl) rfl))
 ·intro hT4
  refine Tr.gskip rfl rfl hT4 rfl ?_
  refine Tr.gskip rfl rfl hT4 rfl ?_
  refine Tr.q (QS.pickT rfl hT4 rfl) rfl ?_
  refine Tr.nil (Tr.thenN ?_)
  exact Tr.endX (Sub.cons rfl (Sub.dropN 3 (by kernel_rfl) rfl))
 refine Tr.q (QS.fieldAddr (off := 2) (ft := 4) rfl Try.underlying40 rfl rfl Try.sizeOf4 (by decide)) rfl ?_
 refine Tr.q (QS.lV rfl Try.isAgg4) rfl ?_
 refine Tr.q (QS.not rfl) rfl ?_
 refine Tr.q (QS.move rfl) rfl ?_
 apply Tr.andP
 ·exact (rfl : _ = (4, 46, 50))
 ·exact rfl
 ·intro hT5; have hT5' := hT5
  try simp only [bs] at hT5'
  refine Tr.gq rfl rfl hT5 (QS.fieldAddr (off := 0) (ft := 4) rfl Try.underlying40 rfl rfl Try.sizeOf4 (by decide)) rfl ?_
  refine Tr.gq rfl rfl hT5 (QS.lV rfl Try.isAgg4) rfl ?_
  refine Tr.gq rfl rfl hT5 (QS.not rfl) rfl ?_
  refine Tr.q (QS.pickT rfl hT5 rfl) rfl ?_
  refine Tr.nil (Tr.thenN ?_)
  exact Tr.endX (Sub.cons rfl (Sub.dropN 4 (by kernel_rfl) rfl))
 ·intro hF5
  refine Tr.gskip rfl rfl hF5 rfl ?_
  refine Tr.gskip rfl rfl hF5 rfl ?_
  refine Tr.gskip rfl rfl hF5 rfl ?_
  refine Tr.q (QS.pickF rfl hF5 rfl) rfl ?_
  refine Tr.nil (Tr.thenN ?_)
  exact Tr.endX (Sub.cons rfl (Sub.dropN 4 (by kernel_rfl) rfl))
 refine Tr.q (QS.fieldAddr (off := 1) (ft := 4) rfl Try.underlying40 rfl rfl Try.sizeOf4 (by decide)) rfl ?_
 refine Tr.q (QS.lV rfl Try.isAgg4) rfl ?_
 refine Tr.q (QS.fieldAddr (off := 1) (ft := 4) rfl Try.underlying40 rfl rfl Try.sizeOf4 (by decide)) rfl ?_
 refine Tr.q (QS.lV rfl Try.isAgg4) rfl ?_
 refine Tr.q (QS.not rfl) rfl ?_
 refine Tr.q (QS.fieldAddr (off := 3) (ft := 4) rfl Try.underlying40 rfl rfl Try.sizeOf4 (by decide)) rfl ?_
 refine Tr.q (QS.lV rfl Try.isAgg4) rfl ?_
 refine Tr.q (QS.fieldAddr (off := 3) (ft := 4) rfl Try.underlying40 rfl rfl Try.sizeOf4 (by decide)) rfl ?_
 refine Tr.q (QS.lV rfl Try.isAgg4) rfl ?_
 refine Tr.q (QS.not rfl) rfl ?_
 refine Tr.q (QS.build (vs := [(0, _), (1, _), (2, _), (3, _), (4, _), (5, _), (6, _), (7, _), (8, _), (9, _), (10, _), (11, _), (12, _), (13, _), (14, _)]) rfl rfl (HLF.built143_0_1_2_3_4_5_6_7_8_9_10_11_12_13_14 _ _ _ _ _ _ _ _ _ _ _ _ _ _ _)) rfl ?_
 refine Tr.alloc Try.zeroValue143 rfl rfl (fun b6 => ?_)
 refine Tr.storeW rfl rfl Try.sizeOf143 (by repeat constructor) (by rfl) (by rfl) (by first | exact List.all_eq_true.1 rfl | exact Enc.one _ _ | (intro u hu; simp [Value.cells] at hu; simp_all [Value.oneCell'])) rfl ?_
 refine Tr.nil (Tr.thenN (Tr.seq (Tr.region ?_)))
 refine Tr.q (QS.move rfl) rfl ?_
 refine Tr.q (QS.geq rfl rfl) rfl ?_
 refine Tr.q (QS.move rfl) rfl ?_
 apply Tr.andP
 ·exact (rfl : _ = (3, 64, 67))
 ·exact rfl
 ·intro hT7; have hT7' := hT7
  try simp only [bs] at hT7'
  refine Tr.gq rfl rfl hT7 (QS.move rfl) rfl ?_
  refine Tr.gq rfl rfl hT7 (QS.lss rfl rfl) rfl ?_
  refine Tr.q (QS.pickT rfl hT7 rfl) rfl ?_
  refine Tr.nil (Tr.thenN ?_)
  exact Tr.endX (Sub.cons rfl (Sub.dropN 3 (by kernel_rfl) rfl))
 ·intro hF7
  refine Tr.gskip rfl rfl hF7 rfl ?_
  refine Tr.gskip rfl rfl hF7 rfl ?_
  refine Tr.q (QS.pickF rfl hF7 rfl) rfl ?_
  refine Tr.nil (Tr.thenN ?_)
  exact Tr.endX (Sub.cons rfl (Sub.dropN 3 (by kernel_rfl) rfl))
 refine Tr.q (QS.move rfl) rfl ?_
 apply Tr.andP
 ·exact (rfl : _ = (4, 68, 72))
 ·exact rfl
 ·intro hT8; have hT8' := hT8
  try simp only [bs] at hT8'
  have hcc : 0 ≤ cc ∧ cc < 15 := by first | assumption | simp_all
  refine Tr.gq rfl rfl hT8 (QS.move rfl) rfl ?_
  refine Tr.gq rfl rfl hT8 (QS.idxArr rfl rfl Try.underlying143 Try.sizeOf4 (by omega)) rfl ?_
  refine Tr.gq rfl rfl hT8 (QS.loadV (v := .bool (holdsP cc f)) rfl (by repeat constructor) Try.isAgg4 (held_get (l := !(f.n == f.v)) (by simp_all) (by simp) (by cases f.n <;> cases f.v <;> rfl))) rfl ?_
  refine Tr.q (QS.pickT rfl hT8 rfl) rfl ?_
  refine Tr.nil (Tr.thenN ?_)
  exact Tr.endX (Sub.cons rfl (Sub.dropN 4 (by kernel_rfl) rfl))
 ·intro hF8
  refine Tr.gskip rfl rfl hF8 rfl ?_
  refine Tr.gskip rfl rfl hF8 rfl ?_
  refine Tr.gskip rfl rfl hF8 rfl ?_
  refine Tr.q (QS.pickF rfl hF8 rfl) rfl ?_
  refine Tr.nil (Tr.thenN ?_)
  exact Tr.endX (Sub.cons rfl (Sub.dropN 4 (by kernel_rfl) rfl))
 refine Tr.q (QS.assign rfl) rfl ?_
 refine Tr.nil (Tr.thenN (Tr.ret ?_))
 refine Tr.ret1 Try.results89 rfl (fun w' hw => ?_)
 exact ⟨by by_cases hcc : 0 ≤ cc ∧ cc < 15 <;> first | simp [hcc.1, hcc.2] | (rw [holds_out hcc]; first | (simp; done) | (simp; omega)), hw.below (Bg.le.refl _)⟩
set_option maxRecDepth 100000 in
set_option maxHeartbeats 4000000 in
theorem apply_bits (op : Int) (a b : UInt32) (w : World) :
  Calls Try.prog 22 #[.int .i64 op, .int .u32 a.toNat, .int .u32 b.toNat] w (fun e w' => e = .returned (.tuple #[.int .u32 (appP op a b).1.toNat, .int .i64 (appP op a b).2]) ∧ Ext w w') := by
 refine enter Try.func22 rfl Try.ntmps22 rfl ?_
 refine Tr.seq (Tr.region ?_)
 refine Tr.q (QS.assign rfl) rfl ?_
 refine Tr.q (QS.assign rfl) rfl ?_
 refine Tr.nil (Tr.thenN (Tr.seq (Tr.seq (Tr.region ?_))))
 refine Tr.q (QS.move rfl) rfl ?_
 refine Tr.q (QS.lss rfl rfl) rfl ?_
 refine Tr.q (QS.move rfl) rfl ?_
 apply Tr.orP
 ·exact (rfl : _ = (3, 11, 14))
 ·exact rfl
 ·intro hF1; have hF1' := hF1
  try simp only [bs] at hF1'
  refine Tr.gq rfl rfl hF1 (QS.move rfl) rfl ?_
  refine Tr.gq rfl rfl hF1 (QS.gtr rfl rfl) rfl ?_
  refine Tr.q (QS.pickF rfl hF1 rfl) rfl ?_
  refine Tr.nil (Tr.thenN ?_)
  exact Tr.endX (Sub.cons rfl (Sub.dropN 3 (by kernel_rfl) rfl))
 ·intro hT1
  refine Tr.gskip rfl rfl hT1 rfl ?_
  refine Tr.gskip rfl rfl hT1 rfl ?_
  refine Tr.q (QS.pickT rfl hT1 rfl) rfl ?_
  refine Tr.nil (Tr.thenN ?_)
  exact Tr.endX (Sub.cons rfl (Sub.dropN 3 (by kernel_rfl) rfl))
 refine Tr.nil (Tr.thenN ?_)
 refine Tr.cond rfl (fun h2 => ?_) (fun h2 => ?_)
 ·try simp only [bs] at h2
  refine Tr.seq (Tr.region ?_)
  refine Tr.q (QS.assign rfl) rfl ?_
  refine Tr.q (QS.assign rfl) rfl ?_
  refine Tr.nil (Tr.thenN (Tr.ret (Tr.thenR ?_)))
  refine Tr.ret2 Try.results22 rfl rfl (fun w' hw => ?_)
  exact ⟨by unfold appP; rw [if_pos (by assumption)]; rfl, hw.below (Bg.le.refl _)⟩
 ·try simp only [bs] at h2
  refine Tr.skip (Tr.thenN (Tr.seq (Tr.region ?_)))
  refine Tr.q (QS.move rfl) rfl ?_
  refine Tr.q (QS.move rfl) rfl ?_
  refine Tr.q (QS.add32 rfl rfl) rfl ?_
  refine Tr.q (QS.move rfl) rfl ?_
  refine Tr.q (QS.move rfl) rfl ?_
  refine Tr.q (QS.sub32 rfl rfl) rfl ?_
  refine Tr.q (QS.move rfl) rfl ?_
  refine Tr.q (QS.move rfl) rfl ?_
  refine Tr.q (QS.mul32 rfl rfl) rfl ?_
  refine Tr.q (QS.move rfl) rfl ?_
  refine Tr.q (QS.move rfl) rfl ?_
  refine Tr.q (QS.and32 rfl rfl) rfl ?_
  refine Tr.q (QS.move rfl) rfl ?_
  refine Tr.q (QS.move rfl) rfl ?_
  refine Tr.q (QS.or32 rfl rfl) rfl ?_
  refine Tr.q (QS.move rfl) rfl ?_
  refine Tr.q (QS.move rfl) rfl ?_
  refine Tr.q (QS.xor32 rfl rfl) rfl ?_
  refine Tr.q (QS.move rfl) rfl ?_
  refine Tr.q (QS.move rfl) rfl ?_
  refine Tr.q (QS.call rfl Try.call43 (fun w hw => shl_bits a b w)) rfl ?_
  refine Tr.q (QS.move rfl) rfl ?_
  refine Tr.q (QS.move rfl) rfl ?_
  refine Tr.q (QS.call rfl Try.call44 (fun w hw => shr_bits a b w)) rfl ?_
  refine Tr.q (QS.move rfl) rfl ?_
  refine Tr.q (QS.move rfl) rfl ?_
  refine Tr.q (QS.call rfl Try.call45 (fun w hw => sar_bits a b w)) rfl ?_
  refine Tr.q (QS.move rfl) rfl ?_
  refine Tr.q (QS.move rfl) rfl ?_
  refine Tr.q (QS.eql32 rfl rfl) rfl ?_
  refine Tr.q (QS.call rfl Try.call46 (fun w hw => truth_bits (decide (a = b)) w)) rfl ?_
  refine Tr.q (QS.move rfl) rfl ?_
  refine Tr.q (QS.move rfl) rfl ?_
  refine Tr.q (QS.neq32 rfl rfl) rfl ?_
  refine Tr.q (QS.call rfl Try.call46 (fun w hw => truth_bits (decide (a ≠ b)) w)) rfl ?_
  refine Tr.q (QS.move rfl) rfl ?_
  refine Tr.q (QS.cvt rfl Try.underlying22 Try.underlying21) rfl ?_
  refine Tr.q (QS.move rfl) rfl ?_
  refine Tr.q (QS.cvt rfl Try.underlying22 Try.underlying21) rfl ?_
  refine Tr.q (QS.lss rfl rfl) rfl ?_
  refine Tr.q (QS.call rfl Try.call46 (fun w hw => truth_bits (lowSgn a b) w)) rfl ?_
  refine Tr.q (QS.move rfl) rfl ?_
  refine Tr.q (QS.move rfl) rfl ?_
  refine Tr.q (QS.lss32 rfl rfl) rfl ?_
  refine Tr.q (QS.call rfl Try.call46 (fun w hw => truth_bits (decide (a < b)) w)) rfl ?_
  refine Tr.q (QS.build (vs := [(0, _), (1, _), (2, _), (3, _), (4, _), (5, _), (6, _), (7, _), (8, _), (9, _), (10, _), (11, _), (12, _)]) rfl rfl (HLF.built95_0_1_2_3_4_5_6_7_8_9_10_11_12 _ _ _ _ _ _ _ _ _ _ _ _ _)) rfl ?_
  refine Tr.alloc Try.zeroValue95 rfl rfl (fun b3 => ?_)
  refine Tr.storeW rfl rfl Try.sizeOf95 (by repeat constructor) (by rfl) (by rfl) (by first | exact List.all_eq_true.1 rfl | exact Enc.one _ _ | (intro u hu; simp [Value.cells] at hu; simp_all [Value.oneCell'])) rfl ?_
  refine Tr.nil (Tr.thenN (Tr.seq ?_))
  have hop : ¬ (op < 3 ∨ 15 < op) := by omega
  refine Tr.region ?_
  refine Tr.q (QS.move rfl) rfl ?_
  refine Tr.q (QS.subI rfl rfl (by omega)) rfl ?_
  refine Tr.q (QS.idxArr rfl rfl Try.underlying95 Try.sizeOf22 (by omega)) rfl ?_
  refine Tr.q (QS.loadV (v := .int .u32 (binP op a b).toNat) rfl (by repeat constructor) Try.isAgg22 (bin_get (by assumption) (by simp))) rfl ?_
  refine Tr.q (QS.assign rfl) rfl ?_
  refine Tr.q (QS.assign rfl) rfl ?_
  refine Tr.nil (Tr.thenN (Tr.ret ?_))
  refine Tr.ret2 Try.results22 rfl rfl (fun w' hw => ?_)
  exact ⟨by unfold appP; rw [if_neg hop], hw.below (Bg.le.refl _)⟩
end Go.Proofs.Ytpeaodkfbjenpaa
namespace Go.HL
open Go
theorem kept_iff (i : Ins) (s : Int) : keptP i s = i ↔ ((s = 4 ∨ s = 5 ∨ s = 6 ∨ s = 7 ∨ s = 8) ∨ i.imm = 0) ∧ ((5 ≤ i.op ∧ i.op ≤ 15 ∨ i.op = 20) ∨ i.form = 0) ∧ ((i.op = 16 ∨ i.op = 17 ∨ i.op = 18) ∨ i.width = 0) ∧
    ((i.op = 20 ∨ i.op = 25) ∨ i.cc = 0) ∧ ((s = 1 ∨ s = 2 ∨ s = 3 ∨ s = 4 ∨ s = 5 ∨ s = 6) ∨ i.a = 0) ∧ ((s = 3 ∨ s = 5) ∨ i.b = 0) := by
  obtain ⟨addr, imm, op, form, width, cc, a, b, size⟩ := i
  have key : ∀ (p : Prop) [Decidable p] (x : Int), ((if p then x else 0) = x) ↔ (p ∨ x = 0) := fun p _ x => by
    by_cases h : p
    · simp [h]
    · simp [h]; exact eq_comm
  have key2 : ∀ (p : Prop) [Decidable p] (x : UInt32), ((if p then x else 0) = x) ↔ (p ∨ x = 0) := fun p _ x => by
    by_cases h : p
    · simp [h]
    · simp [h]; exact eq_comm
  simp only [keptP, Ins.mk.injEq, key, key2, true_and, and_true]
theorem err_of {i : Ins} {c : UInt8} {s : Int} (h : opcodeP i = (c, s, true)) : errP i = if ¬ (regP i.a = true ∧ regP i.b = true ∧ keptP i s = i) then 2 else if (s = 4 ∨ s = 5) ∧ narrowP i.imm = false ∨ s = 7 ∧ narrowP (i.imm - i.addr - 2) = false then 7 else 0 := by
  unfold errP
  simp only [h]
  by_cases h1 : regP i.a = true <;> by_cases h2 : regP i.b = true <;> by_cases h3 : keptP i s = i <;> simp [h1, h2, h3]
end Go.HL
namespace Go.HL
open Go
theorem u8_of_byte (x : UInt8) : u8 (x.toNat : Nat) = x := by
  apply UInt8.toNat_inj.1
  have h := u8_toNat (x.toNat : Nat)
  have := x.toNat_lt
  omega
theorem sub_add32 (a b c : UInt32) : a - (b + c) = a - b - c := by
  apply UInt32.toNat_inj.1
  have ha := a.toNat_lt; have hb := b.toNat_lt; have hc := c.toNat_lt
  simp only [UInt32.toNat_sub, UInt32.toNat_add]
  omega
end Go.HL
namespace Go.HL
open Go
/-- The row of an opcode: what it says, checked at all 256 bytes. -/
def rowOK (c : UInt8) : Bool :=
  let k := (rowP c).1
  let s := (opcodeP k).2.1
  !(rowP c).2 || (decide (opcodeP k = (c, s, true)) && decide (k.addr = 0) && decide (k.imm = 0) && decide (k.b = 0) && decide (k.size = 0) && (decide (s = 1) || decide (k.a = 0)) && decide (0 ≤ k.a) && decide (k.a < 8) &&
    ((decide (5 ≤ k.op) && decide (k.op ≤ 15)) || decide (k.op = 20) || decide (k.form = 0)) && (decide (k.op = 16) || decide (k.op = 17) || decide (k.op = 18) || decide (k.width = 0)) && (decide (k.op = 20) || decide (k.op = 25) || decide (k.cc = 0)) &&
    (!(decide (k.op = 3) || decide (k.op = 4)) || decide (s = 1)) && (decide (k.op = 20) || decide (k.op = 23)) == (decide (s = 7) || decide (s = 8)))
theorem row_all (c : UInt8) : rowOK c = true := by
  revert c
  exact all_u8 (by decide +kernel)
structure RowFacts (c : UInt8) (k : Ins) (s : Int) : Prop where
  op : opcodeP k = (c, s, true)
  addr : k.addr = 0
  imm : k.imm = 0
  b : k.b = 0
  size : k.size = 0
  a : s = 1 ∨ k.a = 0
  ar : 0 ≤ k.a ∧ k.a < 8
  form : (5 ≤ k.op ∧ k.op ≤ 15) ∨ k.op = 20 ∨ k.form = 0
  width : k.op = 16 ∨ k.op = 17 ∨ k.op = 18 ∨ k.width = 0
  cc : k.op = 20 ∨ k.op = 25 ∨ k.cc = 0
  one : k.op = 3 ∨ k.op = 4 → s = 1
  jump : (k.op = 20 ∨ k.op = 23) ↔ (s = 7 ∨ s = 8)
theorem row_facts {c : UInt8} (h : (rowP c).2 = true) : RowFacts c (rowP c).1 (opcodeP (rowP c).1).2.1 := by
  have h1 := row_all c
  simp only [rowOK, h, Bool.not_true, Bool.false_or, Bool.and_eq_true, Bool.or_eq_true, Bool.not_eq_true', Bool.or_eq_false_iff, decide_eq_true_eq, decide_eq_false_iff_not, beq_iff_eq] at h1
  obtain ⟨⟨⟨⟨⟨⟨⟨⟨⟨⟨⟨⟨h01, h02⟩, h03⟩, h04⟩, h05⟩, h06⟩, h07⟩, h08⟩, h09⟩, h10⟩, h11⟩, h12⟩, h13⟩ := h1
  refine ⟨h01, h02, h03, h04, h05, h06, ⟨h07, h08⟩, by omega, by omega, by omega, fun k => by omega, ?_⟩
  rw [Bool.eq_iff_iff] at h13
  simpa using h13
theorem opcodeP_congr {i k : Ins} (ho : i.op = k.op) (hf : i.form = k.form) (hw : i.width = k.width) (hc : i.cc = k.cc) (ha : (k.op = 3 ∨ k.op = 4) → i.a = k.a) : opcodeP i = opcodeP k := by
  unfold opcodeP accessP condP
  rw [ho, hf, hw, hc]
  by_cases h : k.op = 3 ∨ k.op = 4
  · rw [ha h]
  · rw [if_neg (c := k.op = 3) (by omega), if_neg (c := k.op = 4) (by omega), if_neg (c := k.op = 3) (by omega), if_neg (c := k.op = 4) (by omega)]
theorem sext_narrow (x : UInt8) : narrowP (sextP x) = true := by
  revert x; exact all_u8 (by decide +kernel)
theorem sext_byte (x : UInt8) : (sextP x).toUInt8 = x := by
  revert x; exact all_u8 (by decide +kernel)
theorem split16 (x : UInt8) : u8 (((x / 16).toNat : Nat) * 16 + ((x % 16).toNat : Nat)) = x := by
  revert x; exact all_u8 (by decide +kernel)
theorem put_bytes (n : UInt32) : putP [] n 4 = [(shr32 n 0).toUInt8, (shr32 n 8).toUInt8, (shr32 n 16).toUInt8, (shr32 n 24).toUInt8] := rfl
theorem put_long {b : List UInt8} {k : Nat} (h : k + 4 ≤ b.length) : putP [] (longP b k) 4 = [b.getD k default, b.getD (k + 1) default, b.getD (k + 2) default, b.getD (k + 3) default] := by
  rw [put_bytes]
  unfold longP
  generalize b.getD k default = x0
  generalize b.getD (k + 1) default = x1
  generalize b.getD (k + 2) default = x2
  generalize b.getD (k + 3) default = x3
  have h0 := x0.toNat_lt; have h1 := x1.toNat_lt; have h2 := x2.toNat_lt; have h3 := x3.toNat_lt
  have key : ∀ (n : UInt32) (j : Nat) (x : UInt8), n.toNat / 2 ^ j % 256 = x.toNat → (shr32 n j).toUInt8 = x := fun n j x e => by
    apply UInt8.toNat_inj.1
    rw [UInt32.toNat_toUInt8, shr32_toNat]
    exact e
  have e1 : (256 : UInt32).toNat = 256 := rfl
  have e2 : (65536 : UInt32).toNat = 65536 := rfl
  have e3 : (16777216 : UInt32).toNat = 16777216 := rfl
  have hn : (x0.toUInt32 + 256 * x1.toUInt32 + 65536 * x2.toUInt32 + 16777216 * x3.toUInt32).toNat = x0.toNat + 256 * x1.toNat + 65536 * x2.toNat + 16777216 * x3.toNat := by
    simp only [UInt32.toNat_add, UInt32.toNat_mul, UInt8.toNat_toUInt32, e1, e2, e3]
    omega
  congr 1
  · exact key _ _ _ (by rw [hn]; omega)
  congr 1
  · exact key _ _ _ (by rw [hn]; omega)
  congr 1
  · exact key _ _ _ (by rw [hn]; omega)
  congr 1
  exact key _ _ _ (by rw [hn]; omega)
theorem applyP_fields (s : Int) (k : Ins) (b : List UInt8) (nx : UInt32) : (applyP s k b nx).op = k.op ∧ (applyP s k b nx).form = k.form ∧ (applyP s k b nx).width = k.width ∧ (applyP s k b nx).cc = k.cc ∧ (applyP s k b nx).size = k.size ∧ (applyP s k b nx).addr = k.addr := by
  unfold applyP; repeat' split
  all_goals exact ⟨rfl, rfl, rfl, rfl, rfl, rfl⟩
theorem shape_cases {s : Int} (h : 0 ≤ s ∧ s ≤ 8) : s = 0 ∨ s = 1 ∨ s = 2 ∨ s = 3 ∨ s = 4 ∨ s = 5 ∨ s = 6 ∨ s = 7 ∨ s = 8 := by omega
theorem take_list {b : List UInt8} {n : Nat} (h : n ≤ b.length) : b.take n = (List.range n).map fun j => b.getD j default := by
  apply List.ext_getElem?
  intro j
  rw [List.getElem?_take]
  by_cases hj : j < n
  · rw [if_pos hj]
    have : j < b.length := by omega
    simp [hj, List.getD_eq_getElem?_getD, this]
  · rw [if_neg hj]; simp [hj]
/-- What Decode hands back is valid, and encoding it gives the bytes. -/
theorem dec_canon {b : List UInt8} {addr : UInt32} (h : (decP b addr).2 = 0) :
    ∃ s : Int, (decP b addr).1.size = sizeP s ∧ 1 ≤ sizeP s ∧ sizeP s ≤ b.length ∧ (decP b addr).1.addr = addr ∧ errP (decP b addr).1 = 0 ∧ lengthPI (decP b addr).1 = sizeP s ∧ encodeP (decP b addr).1 = b.take (sizeP s).toNat := by
  by_cases h0 : b.length = 0
  · rw [decP_1 h0] at h; cases h
  by_cases hr : (rowP (b.getD 0 default)).2 = true
  case neg => rw [decP_2 h0 (by simpa using hr)] at h; cases h
  by_cases hl : (b.length : Int) < sizeP (opcodeP (rowP (b.getD 0 default)).1).2.1
  · rw [decP_3 h0 hr hl] at h; cases h
  have hf := row_facts hr
  have hsh := opcodeP_shape (rowP (b.getD 0 default)).1
  have e4 := decP_4 (addr := addr) h0 hr hl (k := _) rfl
  rw [← applyP_two] at e4
  generalize hk : (rowP (b.getD 0 default)).1 = k at *
  generalize hs : (opcodeP k).2.1 = s at *
  generalize hi : applyP s { k with addr := addr, size := sizeP s } b (addr + u32 (sizeP s)) = i at *
  have hff := applyP_fields s { k with addr := addr, size := sizeP s } b (addr + u32 (sizeP s))
  rw [hi] at hff
  obtain ⟨fo, fF, fw, fc, fs, fa⟩ := hff
  have hra : regP i.a = true ∧ regP i.b = true := by
    rw [e4] at h
    split at h
    · cases h
    · rename_i q; simpa [not_or] using q
  rw [if_neg (by simp [hra.1, hra.2])] at e4
  rw [e4]
  have hpos : 1 ≤ sizeP s := by unfold sizeP; repeat' split
                                all_goals omega
  have opc : opcodeP i = (b.getD 0 default, s, true) := by
    rw [← hf.op]
    refine opcodeP_congr fo fF fw fc fun q => ?_
    have := hf.one q
    subst this
    rw [← hi]; rfl
  have sp := sizeP_spec s
  have hn : ¬ (b.length : Int) < sizeP s := hl
  -- the operands, shape by shape
  have body : keptP i s = i ∧ ((s = 4 ∨ s = 5) → narrowP i.imm = true) ∧ (s = 7 → narrowP (i.imm - i.addr - 2) = true) ∧ (b.getD 0 default) :: argsP s i (i.addr + u32 (sizeP s)) = b.take (sizeP s).toNat := by
    have kpt : keptP i s = i ↔ ((s = 4 ∨ s = 5 ∨ s = 6 ∨ s = 7 ∨ s = 8) ∨ i.imm = 0) ∧ ((s = 1 ∨ s = 2 ∨ s = 3 ∨ s = 4 ∨ s = 5 ∨ s = 6) ∨ i.a = 0) ∧ ((s = 3 ∨ s = 5) ∨ i.b = 0) := by
      rw [kept_iff, fo, fF, fw, fc]
      have := hf.form; have := hf.width; have := hf.cc
      constructor
      · rintro ⟨q1, q2, q3, q4, q5, q6⟩; exact ⟨q1, q5, q6⟩
      · rintro ⟨q1, q5, q6⟩
        refine ⟨q1, ?_, ?_, ?_, q5, q6⟩
        · rcases hf.form with q | q | q
          · exact .inl (.inl q)
          · exact .inl (.inr q)
          · exact .inr q
        · rcases hf.width with q | q | q | q
          · exact .inl (.inl q)
          · exact .inl (.inr (.inl q))
          · exact .inl (.inr (.inr q))
          · exact .inr q
        · rcases hf.cc with q | q | q
          · exact .inl (.inl q)
          · exact .inl (.inr q)
          · exact .inr q
    rw [kpt, fa]
    have him := hf.imm; have hfb := hf.b; have hfa := hf.a
    rcases shape_cases hsh with rfl | rfl | rfl | rfl | rfl | rfl | rfl | rfl | rfl
    · have e : i = { k with addr := addr, size := sizeP 0 } := hi.symm
      subst e
      refine ⟨⟨.inr him, .inr (by rcases hfa with q | q; omega; exact q), .inr hfb⟩, fun q => by omega, fun q => by omega, ?_⟩
      rw [take_list (n := (sizeP 0).toNat) (by show 1 ≤ _; omega)]; rfl
    · have e : i = { k with addr := addr, size := sizeP 1 } := hi.symm
      subst e
      refine ⟨⟨.inr him, .inl (by omega), .inr hfb⟩, fun q => by omega, fun q => by omega, ?_⟩
      rw [take_list (n := (sizeP 1).toNat) (by show 1 ≤ _; omega)]; rfl
    · have e : i = { k with addr := addr, size := sizeP 2, a := (b.getD 1 default).toNat } := hi.symm
      subst e
      refine ⟨⟨.inr him, .inl (by omega), .inr hfb⟩, fun q => by omega, fun q => by omega, ?_⟩
      rw [take_list (n := (sizeP 2).toNat) (by show 2 ≤ _; omega)]
      show [_, u8 ((b.getD 1 default).toNat : Nat)] = [_, _]
      rw [u8_of_byte]
    · have e : i = { k with addr := addr, size := sizeP 3, a := (b.getD 1 default / 16).toNat, b := (b.getD 1 default % 16).toNat } := hi.symm
      subst e
      refine ⟨⟨.inr him, .inl (by omega), .inl (by omega)⟩, fun q => by omega, fun q => by omega, ?_⟩
      rw [take_list (n := (sizeP 3).toNat) (by show 2 ≤ _; omega)]
      show [_, u8 (((b.getD 1 default / 16).toNat : Nat) * 16 + ((b.getD 1 default % 16).toNat : Nat))] = [_, _]
      rw [split16]
    · have e : i = { k with addr := addr, size := sizeP 4, a := (b.getD 1 default).toNat, imm := sextP (b.getD 2 default) } := hi.symm
      subst e
      refine ⟨⟨.inl (by omega), .inl (by omega), .inr hfb⟩, fun q => sext_narrow _, fun q => by omega, ?_⟩
      rw [take_list (n := (sizeP 4).toNat) (by show 3 ≤ _; omega)]
      show [_, u8 ((b.getD 1 default).toNat : Nat), (sextP (b.getD 2 default)).toUInt8] = [_, _, _]
      rw [u8_of_byte, sext_byte]
    · have e : i = { k with addr := addr, size := sizeP 5, a := (b.getD 1 default / 16).toNat, b := (b.getD 1 default % 16).toNat, imm := sextP (b.getD 2 default) } := hi.symm
      subst e
      refine ⟨⟨.inl (by omega), .inl (by omega), .inl (by omega)⟩, fun q => sext_narrow _, fun q => by omega, ?_⟩
      rw [take_list (n := (sizeP 5).toNat) (by show 3 ≤ _; omega)]
      show [_, u8 (((b.getD 1 default / 16).toNat : Nat) * 16 + ((b.getD 1 default % 16).toNat : Nat)), (sextP (b.getD 2 default)).toUInt8] = [_, _, _]
      rw [split16, sext_byte]
    · have e : i = { k with addr := addr, size := sizeP 6, a := (b.getD 1 default).toNat, imm := longP b 2 } := hi.symm
      subst e
      refine ⟨⟨.inl (by omega), .inl (by omega), .inr hfb⟩, fun q => by omega, fun q => by omega, ?_⟩
      have h6 : sizeP 6 = 6 := rfl
      rw [take_list (n := (sizeP 6).toNat) (by show 6 ≤ _; omega)]
      show _ :: u8 ((b.getD 1 default).toNat : Nat) :: putP [] (longP b 2) 4 = _
      rw [u8_of_byte, put_long (by omega)]
      rfl
    · have e : i = { k with addr := addr, size := sizeP 7, imm := (addr + u32 (sizeP 7)) + sextP (b.getD 1 default) } := hi.symm
      subst e
      have e2 : (addr + u32 (sizeP 7)) + sextP (b.getD 1 default) - addr - 2 = sextP (b.getD 1 default) := by
        rw [← sub_add32]
        show (addr + 2) + sextP (b.getD 1 default) - (addr + 2) = _
        rw [UInt32.add_comm (addr + 2), UInt32.add_sub_cancel]
      have e3 : (addr + u32 (sizeP 7)) + sextP (b.getD 1 default) - (addr + u32 (sizeP 7)) = sextP (b.getD 1 default) := by
        rw [UInt32.add_comm (addr + _), UInt32.add_sub_cancel]
      refine ⟨⟨.inl (by omega), .inr (by rcases hfa with q | q; omega; exact q), .inr hfb⟩, fun q => by omega, fun q => by rw [e2]; exact sext_narrow _, ?_⟩
      rw [take_list (n := (sizeP 7).toNat) (by show 2 ≤ _; omega)]
      show [_, ((addr + u32 (sizeP 7)) + sextP (b.getD 1 default) - (addr + u32 (sizeP 7))).toUInt8] = [_, _]
      rw [e3, sext_byte]
    · have e : i = { k with addr := addr, size := sizeP 8, imm := (addr + u32 (sizeP 8)) + longP b 1 } := hi.symm
      subst e
      have e3 : (addr + u32 (sizeP 8)) + longP b 1 - (addr + u32 (sizeP 8)) = longP b 1 := by
        rw [UInt32.add_comm (addr + _), UInt32.add_sub_cancel]
      refine ⟨⟨.inl (by omega), .inr (by rcases hfa with q | q; omega; exact q), .inr hfb⟩, fun q => by omega, fun q => by omega, ?_⟩
      have h8 : sizeP 8 = 5 := rfl
      rw [take_list (n := (sizeP 8).toNat) (by show 5 ≤ _; omega)]
      show _ :: putP [] ((addr + u32 (sizeP 8)) + longP b 1 - (addr + u32 (sizeP 8))) 4 = _
      rw [e3, put_long (by omega)]
      rfl
  obtain ⟨b1, b2, b3, b4⟩ := body
  have er : errP i = 0 := by
    rw [err_of opc, if_neg (by simp [hra.1, hra.2, b1]), if_neg]
    rintro (⟨q1, q2⟩ | ⟨q1, q2⟩)
    · rw [b2 q1] at q2; cases q2
    · rw [b3 q1] at q2; cases q2
  refine ⟨s, fs, hpos, by omega, fa, er, ?_, ?_⟩
  · unfold lengthPI; rw [if_pos er, opc]
  · unfold encodeP; rw [if_pos er, opc]; exact b4
end Go.HL
namespace Go.HL
open Go
theorem St.setF_setR (s : St) (f : Flg) (k : Int) (x : UInt32) : (s.setF f).setR k x = (s.setR k x).setF f := by
  have h : ({ s.m with f := f } : Mach).set k x = { s.m.set k x with f := f } := by
    unfold Mach.set
    repeat' split
    all_goals rfl
  show ({ s with m := ({ s.m with f := f } : Mach).set k x } : St) = { s with m := { s.m.set k x with f := f } }
  rw [h]
theorem app_opx {op : Int} (h : 8 ≤ op ∧ op ≤ 14) {a b : UInt32} : (appP (aluP.opX op) a b).1 = binP (aluP.opX op) a b := by
  unfold appP
  rw [if_neg]
  unfold aluP.opX
  repeat' split
  all_goals omega
theorem store_err {l : List SecV} {w : WrF} {a : UInt32} {n : Int} {x : UInt32} (h : (storeA l w a n x).2 ≠ 0) : (storeA l w a n x).1 = w := by
  unfold storeA at h ⊢
  repeat' split
  all_goals first | rfl | (exfalso; simp_all)
section
variable {s : St} {bM : Nat} {vi vo eff : Value}
theorem cpuC_done (b : Bool) : splice (cpuC s bM vi vo eff) 17 [.bool b] = cpuC { s with done := b } bM vi vo eff := rfl
theorem cpuC_read : splice (cpuC s bM vi vo eff) 15 [.int .i64 ((s.read : Int) + 1)] = cpuC { s with read := s.read + 1 } bM vi vo eff := rfl
theorem cpuC_out (v : Value) : splice (cpuC s bM vi vo eff) 16 [v] = cpuC s bM vi v eff := rfl
theorem cpuC_err (e : Int) : splice (cpuC s bM vi vo eff) 18 [.int .i64 e] = cpuC { s with err := e } bM vi vo eff := rfl
theorem cpuC_eff (v : Value) : splice (cpuC s bM vi vo eff) 19 [v] = cpuC s bM vi vo v := rfl
end
theorem dec_regs {b : List UInt8} {a : UInt32} (h : (decP b a).2 = 0) : (0 ≤ (decP b a).1.a ∧ (decP b a).1.a < 8) ∧ (0 ≤ (decP b a).1.b ∧ (decP b a).1.b < 8) := by
  obtain ⟨s, _, _, _, _, h5, _⟩ := dec_canon h
  exact ⟨(errP_regs h5).2.1, (errP_regs h5).2.2.1⟩
section
variable {l : List SecV} {inp : List UInt32} {s : St} {i : Ins} {nx : UInt32}
theorem stack_out : (stackS l s i nx).1.out = s.out := by
  unfold stackS
  repeat' split
  all_goals rfl
theorem access_out : (accessS l s i nx).1.out = s.out := by
  unfold accessS
  repeat' split
  all_goals rfl
theorem jump_out : (jumpS l s i nx).1.out = s.out := by
  unfold jumpS
  repeat' split
  all_goals rfl
theorem call_out : (callS l s i nx).1.out = s.out := by
  unfold callS
  repeat' split
  all_goals rfl
theorem trans_w : (transS inp s i nx).1.w = s.w := by
  unfold transS
  repeat' split
  all_goals rfl
end
theorem lessB_le {w : World} {bs bs' : List Nat} {d d' : Nat} (h : ∀ b ∈ bs', b ∈ bs) : Hp.le (Bg.lessB w bs d).blk (Bg.lessB w bs' d').blk := fun b o e => by
  have e' : (if b ∈ bs then none else w.heap[b]?) = some o := e
  show (if b ∈ bs' then none else w.heap[b]?) = some o
  split at e'
  · cases e'
  · rename_i hn
    rw [if_neg (fun q => hn (h b q))]; exact e'
theorem blks_sub {A B : List Ent} (h : ∀ e ∈ A, e ∈ B) : ∀ b ∈ blks A, b ∈ blks B := fun b hb => by
  obtain ⟨e, he, hk⟩ := List.mem_filterMap.1 hb
  exact List.mem_filterMap.2 ⟨e, h e he, hk⟩
theorem OwnAt.perm {w : World} {A B : List Ent} (h : OwnAt w A) (p : B.Perm A) : OwnAt w B := by
  have hb : (blks B).Perm (blks A) := p.filterMap _
  exact ⟨fun e he => h.ent e (p.subset he), hb.nodup_iff.2 h.nodup, fun b hm => h.lt b (hb.subset hm)⟩
theorem Upd.perm {d : Nat} {w w' : World} {A B La Lb : List Ent} (u : Upd d w w' (blks A) La) (hA : B.Perm A) (hL : Lb.Perm La) : Upd d w w' (blks B) Lb := by
  have hb : (blks B).Perm (blks A) := hA.filterMap _
  have hl : (blks Lb).Perm (blks La) := hL.filterMap _
  exact ⟨u.os, u.tape, u.output, u.size, u.dr, fun k hk hn => u.block k hk (fun q => hn (hb.symm.subset q)), fun e he => u.ent e (hL.subset he), hl.nodup_iff.2 u.nodup, fun b m => u.lt b (hl.subset m), fun b m => (u.own b (hl.subset m)).imp (fun q => hb.symm.subset q) id⟩
/-- Inductively: k steps from one state to another, and the addresses of their instructions. -/
inductive Ran (l : List SecV) (inp : List UInt32) (s : St) : Nat → St → List UInt32 → Prop
  | nil : Ran l inp s 0 s []
  | snoc {k : Nat} {t : St} {tr : List UInt32} (h : Ran l inp s k t tr) (h1 : t.done = false) (h2 : t.err = 0) : Ran l inp s (k + 1) (stepS l inp t).1 (tr ++ [t.m.pc])
section
variable {l : List SecV} {inp : List UInt32} {s t : St} {k : Nat} {tr : List UInt32}
theorem Ran.len (h : Ran l inp s k t tr) : tr.length = k := by
  induction h with
  | nil => rfl
  | snoc h h1 h2 ih => simp [ih]
theorem Ran.run (h : Ran l inp s k t tr) : ∀ m, runS l inp (k + m) s = runS l inp m t ∧ traceS l inp (k + m) s = tr ++ traceS l inp m t := by
  induction h with
  | nil => intro m; rw [Nat.zero_add]; exact ⟨rfl, rfl⟩
  | @snoc k t tr h h1 h2 ih =>
    intro m
    obtain ⟨q1, q2⟩ := ih (m + 1)
    rw [show k + 1 + m = k + (m + 1) by omega, q1, q2]
    constructor
    · rw [runS, if_pos ⟨h1, h2⟩]
    · rw [traceS, if_pos ⟨h1, h2⟩, List.append_assoc]; rfl
theorem run_stop (h : ¬ (s.done = false ∧ s.err = 0)) : ∀ m, runS l inp m s = s ∧ traceS l inp m s = []
  | 0 => ⟨rfl, rfl⟩
  | m + 1 => ⟨by rw [runS, if_neg h], by rw [traceS, if_neg h]⟩
theorem Ran.full (h : Ran l inp s k t tr) {n : Nat} (hk : k ≤ n) (hs : k = n ∨ ¬ (t.done = false ∧ t.err = 0)) : t = runS l inp n s ∧ tr = traceS l inp n s := by
  obtain ⟨q1, q2⟩ := h.run (n - k)
  rw [show k + (n - k) = n by omega] at q1 q2
  rcases hs with rfl | hs
  · rw [Nat.sub_self] at q1 q2
    exact ⟨q1.symm, by rw [q2]; simp [traceS]⟩
  · obtain ⟨r1, r2⟩ := run_stop (l := l) (inp := inp) hs (n - k)
    exact ⟨by rw [q1, r1], by rw [q2, r2, List.append_nil]⟩
end
section
variable {l : List SecV} {inp : List UInt32} {s t : St} {k : Nat} {tr : List UInt32}
theorem trans_len {i : Ins} {nx : UInt32} (h : s.out.length ≤ 4096) : (transS inp s i nx).1.out.length ≤ 4096 := by
  unfold transS
  repeat' split
  all_goals first | exact h | (simp only [List.length_append, List.length_cons, List.length_nil]; omega)
theorem eff_len {i : Ins} {nx : UInt32} (h : s.out.length ≤ 4096) : (effS l inp s i nx).1.out.length ≤ 4096 := by
  unfold effS
  repeat' split
  · rw [stack_out]; exact h
  · rw [access_out]; exact h
  · rw [jump_out]; exact h
  · rw [call_out]; exact h
  · exact trans_len h
  · exact h
theorem step_len (h : s.out.length ≤ 4096) : (stepS l inp s).1.out.length ≤ 4096 := by
  unfold stepS
  split
  · exact h
  split
  · exact h
  show (execS l inp s).1.out.length ≤ 4096
  unfold execS
  split
  · exact h
  split
  · exact h
  exact eff_len h
theorem Ran.out_len (h : Ran l inp s k t tr) (hs : s.out.length ≤ 4096) : t.out.length ≤ 4096 := by
  induction h with
  | nil => exact hs
  | snoc h h1 h2 ih => exact step_len ih
/-- The error that a run ends with. -/
def errR (t : St) : Int := if t.err = 0 ∧ t.done = false then 15 else t.err
end
theorem CellsIn.prefix_ {h : Hp} {b : Nat} {xs ys : List Value} (c : CellsIn h b (xs ++ ys)) : CellsIn h b xs := by
  obtain ⟨cs, T, fz, h1, h2⟩ := c
  exact ⟨cs, T, fz, h1, fun j v hv => h2 j v (by rw [List.getElem?_append_left (List.getElem?_eq_some_iff.1 hv).1]; exact hv)⟩
/-- What the rest of one's own is, seen by a callee that owns Lo. -/
theorem HpOK.lessOwn {F : Bg} {L Lo R : List Ent} {w : World} {d : Nat} (h : HpOK F L w) (hs : Split L Lo R) {e : Ent} (he : e ∈ R) : e.ok (e.blk.bind (Bg.lessB w (blks Lo) d).blk) := by
  have hp := h.perm hs.perm.symm
  have hh := hp.ent e (List.mem_append_right _ he)
  unfold Ent.holds at hh
  cases hk : e.blk with
  | none => rw [hk] at hh; exact hh
  | some b =>
    rw [hk] at hh
    simp only [Option.bind_some] at hh ⊢
    have hbl : blks (Lo ++ R) = blks Lo ++ blks R := List.filterMap_append
    have hnd := List.nodup_append.1 (hbl ▸ hp.nodup)
    have hb : b ∈ blks R := List.mem_filterMap.2 ⟨e, he, hk⟩
    have : (Bg.lessB w (blks Lo) d).blk b = w.heap[b]? := by
      show (if b ∈ blks Lo then none else w.heap[b]?) = _
      rw [if_neg (fun q => hnd.2.2 b q b hb rfl)]
    rw [this]; exact hh
theorem stk_store {l : List SecV} {w : WrF} {x : UInt32} : storeA l w 983036 4 x = (putN w 983036 x 4, 0) := by
  have h1 : inStk 983036 = true := by decide
  have h2 : restA l 983036 = 4 := by unfold restA; rw [if_pos h1]; rfl
  have h3 : wrA l 983036 = true := by unfold wrA; rw [h1]; rfl
  rw [store_4 (by decide) (by rw [h2]; decide) (by rw [h3]; decide)]; rfl
theorem memAt_less {F : Bg} {L R : List Ent} {w : World} {bM bm : Nat} {VR : Value} {T T2 : TypeId} {rs : List RegV} {wl : WL} (h : HpOK F L w) (hs : Split L [mapE bm u8V wl] R) (h1 : cellE bM [VR, .map (some bm)] T ∈ R) (h2 : rowE VR T2 encReg rs ∈ R) (h3 : RegIn F.blk rs) :
    MemAt (Bg.lessB w (blks [mapE bm u8V wl]) 0).blk bM bm VR rs := by
  have k1 := h.lessOwn (d := 0) hs h1
  exact ⟨⟨_, _, _, k1, fun j v hv => by simpa using hv⟩, RowOK.sl (h.lessOwn hs h2), h3.mono (h.lessB (d := 0) hs)⟩
end Go.HL
