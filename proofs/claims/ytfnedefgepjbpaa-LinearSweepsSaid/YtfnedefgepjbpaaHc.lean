/- Texts: bytes made a string, a string appended to one's own bytes. -/
import Derived.Test.YtfnedefgepjbpaaMa
import Derived.Laws.BytesArg
import Derived.Lib.AppendStr
set_option linter.unusedSimpArgs false
set_option linter.unusedVariables false
namespace Go.HL
open Go Go.RowKit

def txt (l : List UInt8) : ByteArray := ⟨l.toArray⟩
theorem txt_size (l : List UInt8) : (txt l).size = l.length := by simp [txt, ByteArray.size]
section
variable {P : Program} {ops : Array Oper} {Q : Exit → Act → World → Prop} {N : Nat} {F : Bg} {L : List Ent} {M : Fr} {ty : TypeId} {pos : String} {after : Array Edge} {rest : List Oper} {d : Nat} {dst : Option Tmp} {g : Option (Nat × Bool)}

theorem run_bytes_str {src to e : TypeId} (hs : P.underlying src = some (.slice e)) (he : P.underlying e = some (.int .u8)) (hd : P.underlying to = some .string) {l : List UInt8} {V : Value} {w : World} (s : Sl (HL.hp w) encU8 l V) :
    (convert src to V).run P w = .ok (.string (txt l)) w := by
  obtain ⟨a, c, hV, h1, h2, h3⟩ := s.shape
  by_cases hl : l = []
  · subst hl
    subst hV
    rw [run_convert_bytes_string w src to e a _ c hs he hd]
    cases a with
    | none => simp [Conv.bytesToString, txt]; rfl
    | some a =>
      rw [run_bytesToString w a _ c [] (by simp [loadCells, loadCellsFrom])]
      rfl
  · have ha := h3 hl
    rw [ha] at hV
    rw [hV]
    have := run_convert_bytes_arg (P := P) w src e hs he (bk V) (ofs V) l.length c (l.map fun x => (x.toNat : Int)) (by simp) (fun i hi => by
      have hx : l[i]? = some l[i] := by simp [hi]
      have := s.cell hx (j := 0) (v := .int .u8 l[i].toNat) rfl
      simp only [encU8, Nat.mul_one, Nat.add_zero] at this
      rw [this]; simp [List.getD_eq_getElem?_getD, hi]) to hd
    rw [this]
    congr 2
    apply ByteArray.ext
    apply Array.toList_inj.1
    rw [strOfNums_data]
    simp only [txt, List.map_map]
    conv => rhs; rw [← List.map_id l]
    apply List.map_congr_left
    intro x _
    simp

theorem QS.bytesStr {s t e : TypeId} {x : Operand} {l : List UInt8} {V : Value} (hx : opv M x = some V) (hV : Sl F.blk encU8 l V) (hs : P.underlying s = some (.slice e)) (he : P.underlying e = some (.int .u8)) (hd : P.underlying t = some .string) :
    QS P N F L M ⟨dst, .convert s t x, ty, pos, after, g⟩ (.string (txt l)) :=
  QS.of_run fun a w ha hw => by
    simp [execOp, ha.eval hx, run_bytes_str hs he hd (hw.slF hV)]
theorem QS.bytesStrRow {s t e T : TypeId} {x : Operand} {l : List UInt8} {V : Value} (hx : opv M x = some V) (hV : rowE V T encU8 l ∈ L) (hs : P.underlying s = some (.slice e)) (he : P.underlying e = some (.int .u8)) (hd : P.underlying t = some .string) :
    QS P N F L M ⟨dst, .convert s t x, ty, pos, after, g⟩ (.string (txt l)) :=
  QS.of_run fun a w ha hw => by
    simp [execOp, ha.eval hx, run_bytes_str hs he hd (hw.row hV)]

open Go.Lib (strCells strCells_length run_append_room_string run_append_grow_string)
/-- The bytes of a text. -/
def bts (s : ByteArray) : List UInt8 := s.data.toList
theorem bts_len (s : ByteArray) : (bts s).length = s.size := by rw [bts, Array.length_toList]; rfl
theorem bts_txt (l : List UInt8) : bts (txt l) = l := by simp [bts, txt]
theorem txt_bts (s : ByteArray) : txt (bts s) = s := by simp [bts, txt]
theorem strCells_flat (s : ByteArray) : strCells s = (bts s).flatMap encU8.enc := by
  rw [strCells, bts, List.map_eq_flatMap]; rfl

/-- append of one's own bytes and a text. -/
theorem append_str {xs : List UInt8} {t u ty e : TypeId} {i : TypeInfo} {z : Value} {bytes : Nat} (ht : P.underlying t = some (.slice e)) (hu : P.underlying u = some .string) (hi : P.info? e = some i) (hz : i.zero = some z)
    (hsize : i.size = 1) (hby : i.bytes = bytes) (hzs : z.cells.size = 1) {V : Value} {s : ByteArray} {w : World} (hV : (rowE V e encU8 xs).holds w)
    (hbytes : (xs.length + s.size) * bytes ≤ 140737488355328) (h63 : xs.length + s.size ≤ maxLen) :
    ∃ V' w', (Builtin.append_ #[t, u] ty #[V, .string s]).run P w = .ok V' w' ∧ (rowE V' e encU8 (xs ++ bts s)).holds w' ∧ w'.os = w.os ∧ w'.tape = w.tape ∧ w'.output = w.output ∧ (w.heap.size ≤ w'.heap.size ∧ w.drawn ≤ w'.drawn) ∧
      ((V'.ownBlock = V.ownBlock ∧ V.ownBlock ≠ none ∧ (∀ k, k < w.heap.size → some k ≠ V.ownBlock → w'.heap[k]? = w.heap[k]?)) ∨
       (V'.ownBlock = some w.heap.size ∧ w.heap.size < w'.heap.size ∧ ∀ k, k < w.heap.size → w'.heap[k]? = w.heap[k]?) ∨
       (V' = V ∧ w' = w ∧ bts s = [])) := by
  have hsmall : xs.length + s.size ≤ 9223372036854775807 := by simp only [maxLen] at h63; omega
  have hflat := strCells_flat s
  have hbl := bts_len s
  have newRow : ∀ old (w' : World), w'.heap[w.heap.size]? = some (.cells ((xs.flatMap encU8.enc).toArray ++ (strCells s).toArray ++ Builtin.zeroCells z.cells (grownCap w (xs.length + s.size) old e - (xs.length + s.size))) e) →
      (rowE (.slice (some ⟨w.heap.size, 0, none⟩) (xs.length + s.size) (grownCap w (xs.length + s.size) old e)) e encU8 (xs ++ bts s)).holds w' := by
    intro old w' hw'
    have hge := grownCap_ge w (xs.length + s.size) old e
    have hcm : grownCap w (xs.length + s.size) old e ≤ maxLen := grownCap_le_maxLen w _ old e h63
    unfold rowE Ent.holds
    simp only [Value.ownBlock, Option.bind_some, hw']
    have := rowOK_new (E := encU8) (l := xs ++ bts s) (T := e) (b := w.heap.size) (cap := grownCap w (xs.length + s.size) old e) (cells := ((xs.flatMap encU8.enc).toArray ++ (strCells s).toArray ++ Builtin.zeroCells z.cells (grownCap w (xs.length + s.size) old e - (xs.length + s.size)))) (by simpa [hbl] using hge) hcm
      (by
        have e1 : (xs.flatMap encU8.enc).length = xs.length := by rw [flatMap_length]; exact Nat.mul_one _
        show _ * 1 ≤ _
        simp only [Array.size_append, List.size_toArray, size_zeroCells, hzs, e1, strCells_length]
        omega)
      (by
        have hll : (xs ++ bts s).length * encU8.k = ((xs ++ bts s).flatMap encU8.enc).length := by rw [flatMap_length]
        rw [hll]
        simp only [Array.toList_append, List.flatMap_append, List.append_assoc, hflat]
        rw [← List.append_assoc]
        exact List.take_left)
    simpa [hbl] using this
  rcases hV with ⟨rfl, rfl⟩ | ⟨gb, cap, cur, rfl, ho, hc1, hc2, hc3, hc4⟩
  · by_cases hs0 : s.size = 0
    · refine ⟨.slice none 0 0, w, ?_, ?_, rfl, rfl, rfl, ⟨Nat.le_refl _, Nat.le_refl _⟩, .inr (.inr ⟨rfl, rfl, List.eq_nil_of_length_eq_zero (by omega)⟩)⟩
      · simp [Builtin.append_, run_underlying ht, run_underlying hu, sizeOf, typeInfo, hi, Builtin.lenOf, hs0, Builtin.firstCells]
      · exact .inl ⟨rfl, List.eq_nil_of_length_eq_zero (by simp [hbl, hs0])⟩
    · have hr := run_append_nil_string (P := P) w t u ty e i z ht hu hi hz s (by omega) (by simp at hsmall; omega) (by simp at hbytes; rw [hby]; omega)
      refine ⟨_, _, hr, ?_, rfl, rfl, rfl, ⟨(by simp), (by simp)⟩, .inr (.inl ⟨rfl, (by simp), fun k hk => heap_alloc_old w.drew _ hk⟩)⟩
      have := newRow 0 (w.drew.alloc (.cells (s.data.map (fun b => Value.int .u8 b.toNat) ++ Builtin.zeroCells z.cells (grownCap w s.size 0 e - s.size)) e)) (by
        have := heap_alloc_new w.drew (.cells (s.data.map (fun b => Value.int .u8 b.toNat) ++ Builtin.zeroCells z.cells (grownCap w s.size 0 e - s.size)) e)
        have e1 : (strCells s).toArray = s.data.map (fun b => Value.int .u8 b.toNat) := by apply Array.ext'; simp [strCells]
        simpa [e1] using this)
      simpa using this
  · change w.heap[gb]? = _ at ho
    have hc3' : cap ≤ cur.size := by simpa [encU8] using hc3
    have hc4' : cur.toList.take xs.length = xs.flatMap encU8.enc := by simpa [encU8] using hc4
    by_cases hroom : xs.length + s.size ≤ cap
    · have hr := run_append_room_string (P := P) w t u ty e i ht hu hi hsize gb xs.length cap cur ho s hroom (by omega)
      refine ⟨_, _, hr, ?_, rfl, rfl, rfl, ⟨(by simp), (by simp)⟩, .inl ⟨rfl, (by simp [Value.ownBlock]), fun k _ hk => setRow_other w gb k _ (fun h => hk (by simp [Value.ownBlock, h]))⟩⟩
      unfold rowE Ent.holds
      simp only [Value.ownBlock, Option.bind_some, setRow_heap w gb cur _ e _ ho]
      have := rowOK_new (E := encU8) (l := xs ++ bts s) (T := e) (b := gb) (cap := cap) (cells := (cur.toList.take xs.length ++ strCells s ++ cur.toList.drop (xs.length + s.size)).toArray) (by simpa [hbl] using hroom) hc2
        (by simp only [List.size_toArray, List.length_append, List.length_take, List.length_drop, Array.length_toList, strCells_length, encU8]; omega)
        (by
          have hll : (xs ++ bts s).length * encU8.k = ((xs ++ bts s).flatMap encU8.enc).length := by rw [flatMap_length]
          rw [hll, hc4', hflat]
          simp only [List.flatMap_append]
          exact List.take_left)
      simpa [hbl] using this
    · have holds : ∀ j u, (xs.flatMap encU8.enc)[j]? = some u → w.cell? ((⟨gb, 0, none⟩ : Addr).add j) = some u := by
        intro j u hu
        rw [Addr.add_lit]
        have hb : HL.hp w gb = some (.cells cur e (0, 0)) := ho
        rw [cell_of hb, Nat.zero_add]
        rw [← hc4, List.getElem?_take] at hu
        split at hu
        · simpa using hu
        · cases hu
      have hr := run_append_grow_string (P := P) w t u ty e i z ht hu hi hz ⟨gb, 0, none⟩ xs.length cap (xs.flatMap encU8.enc) (by rw [flatMap_length, hsize]; rfl) holds s (by omega) (by omega) (growslice_fits (by omega) (by rw [hby]; exact hbytes))
      exact ⟨_, _, hr, newRow cap _ (heap_alloc_new w.drew _), rfl, rfl, rfl, ⟨(by simp), (by simp)⟩, .inr (.inl ⟨rfl, (by simp), fun k hk => heap_alloc_old w.drew _ hk⟩)⟩

theorem Tr.appendStr {xs : List UInt8} {x y : Operand} {V : Value} {s : ByteArray} {t u e : TypeId} {z : Value} {k bytes : Nat} {L1 : List Ent} (hx : opv M x = some V) (hy : opv M y = some (.string s))
    (hV : Del (rowE V e encU8 xs) L L1) (ht : P.underlying t = some (.slice e)) (hu : P.underlying u = some .string) (hinfo : (P.info? e).map (fun i => (i.zero, i.size, i.bytes)) = some (some z, k, bytes)) (hk : k = 1) (hzs : z.cells.size = k)
    (hbytes : (xs.length + s.size) * bytes ≤ 140737488355328) (h63 : xs.length + s.size ≤ maxLen) (hd : Nat.ble (d + 1) N = true)
    (K : ∀ V', Tr N F (rowE V' e encU8 (xs ++ bts s) :: L1) ((d, V') :: M) (wpList P ops Q rest)) : Tr N F L M (wpList P ops Q (⟨some d, .call { callee := .builtin .append, args := #[x, y], argTypes := #[t, u] }, ty, pos, after, none⟩ :: rest)) := by
  intro a w ha hw
  refine wpList_plain rfl fun K' hK => ?_
  obtain ⟨i, hi, hz, hsize, hby⟩ := info_parts' hinfo
  rw [hk] at hsize hzs
  have hf := hw.front hV
  obtain ⟨V', w', hr, h1, h2, h3, h4, h5, h6⟩ := append_str (P := P) (ty := ty) ht hu hi hz hsize hby hzs (hf.ent _ (.head _)) hbytes h63
  unfold Oper.wp execOp
  simp only [resolve, invoke, builtin, Sem.run_bind, Sem.run_pure, Result.andThen_ok, List.map_toArray, List.map_cons, List.map_nil, ha.eval hx, ha.eval hy, hr]
  exact hK _ _ (K V' _ _ (ha.put (Nat.le_of_ble_eq_true hd)) (hf.regrow h1 h2 h3 h4 h5 (h6.imp id (Or.imp id fun ⟨q1, q2, q3⟩ => ⟨q1, q2, by rw [q3, List.append_nil]⟩))))

/-- A call that hands back a value with a new row in it. -/
theorem Tr.callRowF {α : Type} {E : Enc α} {l : List α} {T : TypeId} {f : FuncId} {xs : List Operand} {vs : List Value} {ts : Array TypeId} (φ : Value → Value) (hx : opvs M xs = some vs)
    (he : ∀ (args : Array Value) (w : World), (callFunc f args).run P w = .ok (.enter f args) w)
    (hc : ∀ w, HpOK F L w → Calls P f vs.toArray w fun e w' => ∃ V, e = .returned (φ V) ∧ Ext w w' ∧ NewRow w w' T E l V) (hd : Nat.ble (d + 1) N = true)
    (K : ∀ V, Tr N F (rowE V T E l :: L) ((d, φ V) :: M) (wpList P ops Q rest)) :
    Tr N F L M (wpList P ops Q (⟨some d, .call { callee := .value (.func f), args := xs.toArray, argTypes := ts }, ty, pos, after, none⟩ :: rest)) := by
  intro a w ha hw
  refine wpList_plain rfl fun K' hK => ?_
  have hr : (execOp a.eval ⟨some d, .call { callee := .value (.func f), args := xs.toArray, argTypes := ts }, ty, pos, after, none⟩).run P w = .ok (.enter f vs.toArray) w := by
    have := ha.evals hx
    simp [execOp, resolve, Deferred.ofValue, Act.eval, invoke, he, this]
  unfold Oper.wp
  rw [hr]
  refine (hc w hw).mono fun e w' ⟨V, h1, h2, h3⟩ => ?_
  subst h1
  exact hK _ _ (K V _ _ (ha.put (Nat.le_of_ble_eq_true hd)) (hw.newRow h2 h3))
end
end Go.HL
