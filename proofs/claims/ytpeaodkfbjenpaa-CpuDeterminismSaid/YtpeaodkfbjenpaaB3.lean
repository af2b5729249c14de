/- Own rules and walks, part 3. -/
import Derived.Test.YtpeaodkfbjenpaaB2
set_option linter.unusedSimpArgs false
set_option linter.unusedVariables false
set_option linter.unusedSectionVars false
namespace Go.HL
open Go
def u8V (x : UInt8) : Value := .int .u8 (x.toNat : Int)
abbrev WL := List (UInt32 × UInt8)
def mread (wl : WL) : WrF := fun a => mget wl a
theorem u32_nat (k : Nat) : u32 (k : Int) = UInt32.ofNat k := by
  rw [← UInt32.toNat_inj]
  unfold u32
  simp only [UInt32.toNat_ofNat']
  omega
theorem ofNat_succ (a : UInt32) (k : Nat) : a + 1 + UInt32.ofNat k = a + UInt32.ofNat (k + 1) := by
  rw [← UInt32.toNat_inj]
  simp only [UInt32.toNat_add, UInt32.toNat_ofNat', UInt32.toNat_one]
  omega
theorem add_nat {a : UInt32} {k : Nat} (h : a.toNat + k < 4294967296) : (a + UInt32.ofNat k).toNat = a.toNat + k := by
  simp only [UInt32.toNat_add, UInt32.toNat_ofNat']
  omega
def ovr (wl : WL) (a : UInt32) : List UInt8 → List UInt8
  | [] => []
  | b :: t => (mget wl a).getD b :: ovr wl (a + 1) t
theorem ovr_len (wl : WL) : ∀ (l : List UInt8) (a : UInt32), (ovr wl a l).length = l.length
  | [], _ => rfl
  | b :: t, a => by simp [ovr, ovr_len wl t]
theorem ovr_get (wl : WL) : ∀ (l : List UInt8) (a : UInt32) (k : Nat), (ovr wl a l)[k]? = (l[k]?).map fun b => (mget wl (a + UInt32.ofNat k)).getD b
  | [], a, k => by simp [ovr]
  | b :: t, a, 0 => by
    have : a + UInt32.ofNat 0 = a := by rw [← UInt32.toNat_inj, add_nat (by have := a.toNat_lt; omega)]; rfl
    simp only [ovr, List.getElem?_cons_zero, Option.map_some, this]
  | b :: t, a, k + 1 => by
    simp only [ovr, List.getElem?_cons_succ]
    rw [ovr_get wl t (a + 1) k, ofNat_succ]
theorem ovr_yes {wl : WL} {a : UInt32} {l : List UInt8} {k : Nat} {x : UInt8} (hk : k < l.length) (h : mget wl (a + UInt32.ofNat k) = some x) : (ovr wl a (l.take k) ++ l.drop k).set k x = ovr wl a (l.take (k + 1)) ++ l.drop (k + 1) := by
  apply List.ext_getElem?
  intro j
  have h1 : (ovr wl a (l.take k)).length = k := by rw [ovr_len, List.length_take]; omega
  have h2 : (ovr wl a (l.take (k + 1))).length = k + 1 := by rw [ovr_len, List.length_take]; omega
  rw [List.getElem?_set, List.getElem?_append, List.getElem?_append, h1, h2]
  have hl : (ovr wl a (l.take k) ++ l.drop k).length = l.length := by rw [List.length_append, h1, List.length_drop]; omega
  rw [hl]
  by_cases c : k = j
  · subst c
    rw [if_pos rfl, if_pos hk, if_pos (by omega), ovr_get, List.getElem?_take, if_pos (by omega), List.getElem?_eq_getElem hk]
    simp [h]
  · rw [if_neg c]
    by_cases c2 : j < k
    · rw [if_pos c2, if_pos (by omega), ovr_get, ovr_get, List.getElem?_take, List.getElem?_take, if_pos c2, if_pos (by omega)]
    · rw [if_neg c2, if_neg (by omega), List.getElem?_drop, List.getElem?_drop]
      congr 1; omega
theorem ovr_no {wl : WL} {a : UInt32} {l : List UInt8} {k : Nat} (hk : k < l.length) (h : mget wl (a + UInt32.ofNat k) = none) : ovr wl a (l.take k) ++ l.drop k = ovr wl a (l.take (k + 1)) ++ l.drop (k + 1) := by
  apply List.ext_getElem?
  intro j
  have h1 : (ovr wl a (l.take k)).length = k := by rw [ovr_len, List.length_take]; omega
  have h2 : (ovr wl a (l.take (k + 1))).length = k + 1 := by rw [ovr_len, List.length_take]; omega
  rw [List.getElem?_append, List.getElem?_append, h1, h2]
  by_cases c : k = j
  · subst c
    rw [if_neg (by omega), if_pos (by omega), ovr_get, List.getElem?_take, if_pos (by omega), List.getElem?_drop, List.getElem?_eq_getElem (by omega : k + (k - k) < l.length)]
    simp [h, List.getElem?_eq_getElem hk]
  · by_cases c2 : j < k
    · rw [if_pos c2, if_pos (by omega), ovr_get, ovr_get, List.getElem?_take, List.getElem?_take, if_pos c2, if_pos (by omega)]
    · rw [if_neg c2, if_neg (by omega), List.getElem?_drop, List.getElem?_drop]
      congr 1; omega
def presR (r : RegV) (wl : WL) (a : UInt32) (n : Nat) : List UInt8 := ovr wl a ((r.data.drop (a.toNat - r.org)).take n)
theorem bytesA_len (l : List SecV) (w : WrF) : ∀ (n : Nat) (a : UInt32), (bytesA l w a n).length = n
  | 0, _ => rfl
  | n + 1, a => by simp [bytesA, bytesA_len l w n]
theorem bytesA_get (l : List SecV) (w : WrF) : ∀ (n : Nat) (a : UInt32) (k : Nat), k < n → (bytesA l w a n)[k]? = some (byteA l w (a + UInt32.ofNat k))
  | 0, _, k, h => by omega
  | n + 1, a, 0, _ => by
    have : a + UInt32.ofNat 0 = a := by rw [← UInt32.toNat_inj, add_nat (by have := a.toNat_lt; omega)]; rfl
    simp only [bytesA, List.getElem?_cons_zero, this]
  | n + 1, a, k + 1, h => by
    simp only [bytesA, List.getElem?_cons_succ]
    rw [bytesA_get l w n (a + 1) k (by omega), ofNat_succ]
section
variable {l : List SecV} {rs : List RegV} {a : UInt32} {wl : WL}
theorem MemOK.top (h : MemOK l rs) (hf : ¬ fndI rs a < 0) : (fndR rs a).org + (fndR rs a).data.length ≤ 4294967295 ∧ (fndR rs a).data.length ≤ 65536 := by
  have := (h.bounds.2 _ (h.reg hf).2.2.1); omega
theorem MemOK.init (h : MemOK l rs) (hf : ¬ fndI rs a < 0) {b : UInt32} (hb : (fndR rs a).org ≤ b.toNat ∧ b.toNat < (fndR rs a).org + (fndR rs a).data.length) : initA l b = (fndR rs a).data.getD (b.toNat - (fndR rs a).org) 0 := by
  obtain ⟨hfb, hpl, hst, hfi⟩ := h.same hf hb
  obtain ⟨h1, h2, _, _, _⟩ := h.reg hf
  have e1 := congrArg Reg.org h1
  have e2 := congrArg Reg.data h1
  unfold initA
  by_cases hs : inStk a = true
  · rw [if_pos (.inl (hst.trans hs))]
    rw [if_pos hs] at e2
    have e2' : (fndR rs a).data = List.replicate 4096 0 := e2
    rw [e2', List.getD_eq_getElem?_getD, List.getElem?_replicate]
    split <;> rfl
  · have hs' : inStk a = false := by simpa using hs
    rw [if_neg hs] at e1 e2
    have e1' : (fndR rs a).org = (secA l a).addr.toNat := e1
    have e2' : (fndR rs a).data = (secA l a).data := e2
    have hq : ¬ findP l a < 0 := by intro q; unfold noReg at h2; simp [hs, q] at h2
    have hfe := hfi hs'
    rw [if_neg (by rw [hst, hfe]; simp [hs', hq])]
    have : secA l b = secA l a := by unfold secA; rw [hfe]
    rw [this, e1', e2', UInt32.toNat_sub_of_le _ _ (UInt32.le_iff_toNat_le.2 (by omega))]
theorem MemOK.pres (h : MemOK l rs) (hf : ¬ fndI rs a < 0) {n : Nat} (hn : (n : Int) ≤ restA l a) : presR (fndR rs a) wl a n = bytesA l (mread wl) a n := by
  have hr := h.rest hf
  obtain ⟨_, _, _, h1, h2⟩ := h.reg hf
  have ht := h.top hf
  have hl : ((fndR rs a).data.drop (a.toNat - (fndR rs a).org)).length = (fndR rs a).data.length - (a.toNat - (fndR rs a).org) := List.length_drop
  apply List.ext_getElem?
  intro k
  unfold presR
  rw [ovr_get, List.getElem?_take]
  by_cases c : k < n
  · rw [if_pos c, bytesA_get l _ n a k c, List.getElem?_drop]
    have hk : a.toNat - (fndR rs a).org + k < (fndR rs a).data.length := by omega
    rw [List.getElem?_eq_getElem hk]
    have hb : (a + UInt32.ofNat k).toNat = a.toNat + k := add_nat (by omega)
    have hi := h.init hf (b := a + UInt32.ofNat k) (by omega)
    simp only [Option.map_some, Option.some.injEq]
    unfold byteA mread
    rw [hi, hb, List.getD_eq_getElem?_getD, show a.toNat + k - (fndR rs a).org = a.toNat - (fndR rs a).org + k by omega, List.getElem?_eq_getElem hk]
    rfl
  · rw [if_neg c, List.getElem?_eq_none (by rw [bytesA_len]; omega)]; rfl
def leN : List UInt8 → Nat
  | [] => 0
  | b :: t => b.toNat + 256 * leN t
theorem leN_lt : ∀ l : List UInt8, leN l < 256 ^ l.length
  | [] => by simp [leN]
  | b :: t => by
    have := leN_lt t
    have hb := b.toNat_lt
    simp only [leN, List.length_cons, Nat.pow_succ]
    omega
theorem leP_nat : ∀ l : List UInt8, l.length ≤ 4 → (leP l).toNat = leN l
  | [], _ => rfl
  | b :: t, h => by
    have hl : t.length ≤ 3 := by simpa using h
    have ih := leP_nat t (by omega)
    have h1 := leN_lt t
    have h2 : 256 ^ t.length ≤ 256 ^ 3 := Nat.pow_le_pow_right (by decide) hl
    have hb := b.toNat_lt
    simp only [leP, leN, UInt32.toNat_add, UInt32.toNat_mul, UInt8.toNat_toUInt32, ih]
    have : (256 : UInt32).toNat = 256 := rfl
    rw [this]
    have h3 : (256 : Nat) ^ 3 = 16777216 := by decide
    omega
theorem leN_snoc (b : UInt8) : ∀ l : List UInt8, leN (l ++ [b]) = leN l + 256 ^ l.length * b.toNat
  | [] => by simp [leN]
  | c :: t => by
    simp only [List.cons_append, leN, leN_snoc b t, List.length_cons, Nat.pow_succ]
    rw [Nat.mul_add, ← Nat.mul_assoc, Nat.mul_comm 256 (256 ^ t.length)]
    omega
theorem le_step {l : List UInt8} {k : Nat} (hk : k < l.length) (hl : l.length ≤ 4) {c : Int} (hc : c = 8 * (k : Int)) : leP (l.take k) ||| shl32 (l.getD k default).toUInt32 c.toNat = leP (l.take (k + 1)) := by
  have h1 : (l.take k).length = k := by rw [List.length_take]; omega
  have e1 : l.take (k + 1) = l.take k ++ [l.getD k default] := take_succ hk
  have hb := (l.getD k default).toNat_lt
  have hlt := leN_lt (l.take k)
  rw [h1] at hlt
  have hp : (256 : Nat) ^ k = 2 ^ (8 * k) := by rw [Nat.pow_mul]
  have hk8 : 2 ^ (8 * k) * 256 ≤ 2 ^ 32 := by
    have : 2 ^ (8 * k) * 2 ^ 8 = 2 ^ (8 * k + 8) := by rw [Nat.pow_add]
    have h2 : 2 ^ (8 * k + 8) ≤ 2 ^ 32 := Nat.pow_le_pow_right (by decide) (by omega)
    omega
  rw [← UInt32.toNat_inj, UInt32.toNat_or, shl32_toNat, leP_nat _ (by omega), leP_nat _ (by rw [List.length_take]; omega), e1, leN_snoc, h1, UInt8.toNat_toUInt32, show c.toNat = 8 * k by omega]
  have hm : (l.getD k default).toNat * 2 ^ (8 * k) < 2 ^ 32 := by
    have : (l.getD k default).toNat * 2 ^ (8 * k) ≤ 255 * 2 ^ (8 * k) := Nat.mul_le_mul_right _ (by omega)
    have hpos : 0 < 2 ^ (8 * k) := Nat.pow_pos (by decide)
    omega
  rw [show (4294967296 : Nat) = 2 ^ 32 from rfl, Nat.mod_eq_of_lt hm, ← Nat.shiftLeft_eq, Nat.or_comm, ← Nat.shiftLeft_add_eq_or_of_lt (by omega), Nat.shiftLeft_eq, hp]
  rw [Nat.mul_comm (2 ^ (8 * k))]
  omega
def putL (wl : WL) (a : UInt32) (n : UInt32) : Nat → WL
  | 0 => wl
  | k + 1 => mput (putL wl a n k) (a + UInt32.ofNat k) (shr32 n (8 * k)).toUInt8
theorem putL_read (wl : WL) (a n : UInt32) : ∀ k, mread (putL wl a n k) = putN (mread wl) a n k
  | 0 => rfl
  | k + 1 => by
    funext x
    show mget (mput (putL wl a n k) _ _) x = putW (putN (mread wl) a n k) _ _ x
    rw [mget_put, ← putL_read wl a n k]; rfl
theorem putL_len (wl : WL) (a n : UInt32) : ∀ k, (putL wl a n k).length ≤ wl.length + k
  | 0 => Nat.le_refl _
  | k + 1 => by
    have := putL_len wl a n k
    have := mput_len (putL wl a n k) (a + UInt32.ofNat k) (shr32 n (8 * k)).toUInt8
    show (mput _ _ _).length ≤ _
    omega
theorem putN_get (w : WrF) (a n x : UInt32) : ∀ k, k ≤ 4 → putN w a n k x = (if ((x - a).toNat < k) then some (shr32 n (8 * (x - a).toNat)).toUInt8 else w x)
  | 0, _ => by simp [putN]
  | k + 1, hk => by
    unfold putN putW
    rw [putN_get w a n x k (by omega)]
    have ha := a.toNat_lt
    have hx := x.toNat_lt
    by_cases c : x = a + UInt32.ofNat k
    · rw [if_pos c]
      have : (x - a).toNat = k := by
        subst c
        rw [UInt32.toNat_sub, UInt32.toNat_add, UInt32.toNat_ofNat']
        omega
      rw [this, if_pos (by omega)]
    · rw [if_neg c]
      have : (x - a).toNat ≠ k := fun e => c (by
        rw [← UInt32.toNat_inj, UInt32.toNat_add, UInt32.toNat_ofNat']
        rw [UInt32.toNat_sub] at e
        omega)
      by_cases c2 : (x - a).toNat < k
      · rw [if_pos c2, if_pos (by omega)]
      · rw [if_neg c2, if_neg (by omega)]
theorem putN_reg (h : MemOK l rs) {w : WrF} (hw : InReg l w) {n x : UInt32} {k : Nat} (hk : k ≤ 4) (hr : (k : Int) ≤ restA l a) : InReg l (putN w a n k) := by
  intro b hb
  rw [putN_get _ _ _ _ _ hk] at hb
  split at hb
  · rename_i c
    by_cases hf : fndI rs a < 0
    · have := (h.none hf).2; omega
    · have hrest := h.rest hf
      have ht := h.top hf
      obtain ⟨_, _, _, h1, h2⟩ := h.reg hf
      have hb2 : b.toNat = a.toNat + (b - a).toNat := by
        have ha := a.toNat_lt
        have hbl := b.toNat_lt
        rw [UInt32.toNat_sub] at c ⊢
        omega
      obtain ⟨g1, _⟩ := h.same hf (b := b) (by omega)
      exact (h.reg g1).2.1
  · exact hw b hb
end
end Go.HL
namespace Go.HL
open Go Go.RowKit Go.ChangeMaps Go.MapKept
section
variable {P : Program} {ops : Array Oper} {Q : Exit → Act → World → Prop} {N : Nat} {F : Bg} {L : List Ent} {M : Fr} {rest : List Oper} {d : Nat}
/-- An iterator over a map on its way: these keys have come. -/
structure IterOK (b : Nat) (es : Array MapEntry) (ck : Nat) (done : List UInt32) (o : Option Obj) : Prop where
  it : ∃ since seen c0, o = some (.mapIter (some b) since seen c0) ∧ (∀ x ∈ es.toList, x.born < since) ∧ since ≤ c0 ∧ since ≤ ck ∧ (∀ x ∈ es.toList, seen.contains x.born = true ↔ ∃ k ∈ done, x.key = keyV k) ∧
    (∀ k, done.getLast? = some k → c0 = ck ∧ ∃ (seen0 : Array Nat) (e : MapEntry), seen = seen0.push e.born ∧ e ∈ es.toList ∧ e.key = keyV k)
theorem mapSt {α : Type} {f : α → Value} {l : List (UInt32 × α)} {es : Array MapEntry} {ck : Nat} (h : MapIs f l es ck) : (∀ x ∈ es.toList, x.born < ck) ∧ (es.toList.map (·.born)).Nodup ∧ es.toList.Pairwise (fun x y => x.key ≠ y.key) := (stamped_iff es ck).1 h.st
theorem mem_ent {α : Type} {f : α → Value} {l : List (UInt32 × α)} {es : Array MapEntry} {ck : Nat} (h : MapIs f l es ck) {e : MapEntry} (he : e ∈ es.toList) : ∃ k x, mget l k = some x ∧ e.key = keyV k ∧ e.val = f x ∧ k ∈ l.map (·.1) := by
  obtain ⟨j, hj⟩ := List.getElem?_of_mem he
  obtain ⟨p, hp, h1, h2⟩ := h.at_ hj
  exact ⟨p.1, p.2, mget_of_mem h.nodup (List.mem_of_getElem? hp), h1, h2, List.mem_map.2 ⟨p, List.mem_of_getElem? hp, rfl⟩⟩
theorem ent_of {α : Type} {f : α → Value} {l : List (UInt32 × α)} {es : Array MapEntry} {ck : Nat} (h : MapIs f l es ck) {k : UInt32} (hk : k ∈ l.map (·.1)) : ∃ e ∈ es.toList, e.key = keyV k := by
  have : keyV k ∈ es.toList.map (·.key) := by rw [h.keys]; obtain ⟨p, hp, rfl⟩ := List.mem_map.1 hk; exact List.mem_map.2 ⟨p, hp, rfl⟩
  obtain ⟨e, he, h1⟩ := List.mem_map.1 this
  exact ⟨e, he, h1⟩
theorem IterOK.start {α : Type} {f : α → Value} {l : List (UInt32 × α)} {b : Nat} {es : Array MapEntry} {ck : Nat} (h : MapIs f l es ck) : IterOK b es ck [] (some (.mapIter (some b) ck #[] ck)) :=
  ⟨ck, #[], ck, rfl, (mapSt h).1, Nat.le_refl _, Nat.le_refl _, fun x _ => by simp, fun k hk => by simp at hk⟩
/-- What the step gives. -/
theorem next_iter {α : Type} {f : α → Value} {l : List (UInt32 × α)} {b r : Nat} {es : Array MapEntry} {ck : Nat} {done : List UInt32} {w : World} (hm : MapIs f l es ck) (hb : w.heap[b]? = some (.map es ck)) (hI : IterOK b es ck done (w.heap[r]?)) (ty : TypeId) :
    ((∀ k ∈ l.map (·.1), k ∈ done) ∧ (Instr.next (.pointer (some ⟨r, 0, none⟩)) false ty).run P w = .ok (.tuple #[.bool false]) w) ∨
    ∃ k x w1 o, (w1 = w ∨ w1 = w.drew) ∧ mget l k = some x ∧ k ∈ l.map (·.1) ∧ k ∉ done ∧ IterOK b es ck (done ++ [k]) (some o) ∧
      (Instr.next (.pointer (some ⟨r, 0, none⟩)) false ty).run P w = .ok (.tuple #[.bool true, keyV k, f x]) (setBlock w1 r o) := by
  obtain ⟨since, seen, c0, hr, hold, hsc, hsk, hl, hlast⟩ := hI.it
  rcases run_next_at (P := P) w ty r b since c0 seen es ck hr hb hold hsc with ⟨h0, hrun⟩ | ⟨e, he, w1, hal, hrun⟩
  · refine .inl ⟨fun k hk => ?_, hrun⟩
    obtain ⟨e, he, hek⟩ := ent_of hm hk
    obtain ⟨k', hk', e2⟩ := (hl e he).1 (all_seen es seen h0 e he)
    rw [hek] at e2
    rw [keyV_inj e2]; exact hk'
  · obtain ⟨hem, hes⟩ := mem_left he
    obtain ⟨k, x, hx, h1, h2, h3⟩ := mem_ent hm hem
    have hnd : k ∉ done := fun hk => by
      have := (hl e hem).2 ⟨k, hk, h1⟩
      rw [hes] at this; cases this
    refine .inr ⟨k, x, w1, _, hal, hx, h3, hnd, ⟨since, seen.push e.born, ck, rfl, hold, hsk, hsk, fun y hy => ?_, fun k' hk' => ?_⟩, by rw [← h1, ← h2]; exact hrun⟩
    · rw [contains_push, Bool.or_eq_true, hl y hy, beq_iff_eq]
      constructor
      · rintro (⟨k', q1, q2⟩ | q)
        · exact ⟨k', List.mem_append_left _ q1, q2⟩
        · obtain rfl := born_inj (mapSt hm).2.1 hy hem q
          exact ⟨k, by simp, h1⟩
      · rintro ⟨k', q1, q2⟩
        rcases List.mem_append.1 q1 with q1 | q1
        · exact .inl ⟨k', q1, q2⟩
        · right
          obtain rfl := List.mem_singleton.1 q1
          rw [entry_eq_of_key (mapSt hm).2.2 hy hem (by rw [q2, h1])]
    · simp only [List.getLast?_append, List.getLast?_singleton, Option.some_or, Option.some.injEq] at hk'
      subst hk'
      exact ⟨rfl, seen, e, rfl, hem, h1⟩
theorem entry_iter {α : Type} {f : α → Value} {l : List (UInt32 × α)} {b r : Nat} {es : Array MapEntry} {ck : Nat} {done : List UInt32} {w : World} {k : UInt32} {x : α} (hm : MapIs f l es ck) (hb : w.heap[b]? = some (.map es ck)) (hI : IterOK b es ck done (w.heap[r]?)) (hl : done.getLast? = some k) (hx : mget l k = some x) :
    (Instr.entry (.pointer (some ⟨r, 0, none⟩))).run P w = .ok (.tuple #[keyV k, f x]) w := by
  obtain ⟨since, seen, c0, hr, hold, hsc, hsk, _, hlast⟩ := hI.it
  obtain ⟨rfl, seen0, e, rfl, he, hek⟩ := hlast k hl
  obtain ⟨k', x', h0, h1, h2, h3⟩ := mem_ent hm he
  obtain rfl := keyV_inj (hek.symm.trans h1)
  rw [hx] at h0; cases h0
  rw [run_entry_at w r b since seen0 es c0 e hr hb he (mapSt hm).2.1, hek, h2]
theorem setBlock_other {w : World} {r k : Nat} {o : Obj} (h : k ≠ r) : (setBlock w r o).heap[k]? = w.heap[k]? := by
  simp [setBlock, Array.getElem?_setIfInBounds, Ne.symm h]
theorem setBlock_same {w : World} {r : Nat} {o : Obj} (h : r < w.heap.size) : (setBlock w r o).heap[r]? = some o := by
  simp [setBlock, h]
end
section
variable {P : Program} {Q : Exit → Act → World → Prop} {N : Nat} {F : Bg} {L : List Ent} {M : Fr}
end
theorem nodup_len : ∀ {l l' : List UInt32}, l.Nodup → (∀ x ∈ l, x ∈ l') → l.length ≤ l'.length
  | [], _, _, _ => Nat.zero_le _
  | x :: l, l', hn, hs => by
    have hx : x ∈ l' := hs x (.head _)
    have h1 := List.nodup_cons.1 hn
    have h2 := nodup_len (l' := l'.erase x) h1.2 fun y hy => (List.mem_erase_of_ne (fun (e : y = x) => h1.1 (by rw [← e]; exact hy))).2 (hs y (.tail _ hy))
    rw [List.length_erase_of_mem hx] at h2
    have := List.length_pos_of_mem hx
    simp only [List.length_cons]
    omega
theorem keys_lt {α : Type} {l : List (UInt32 × α)} {done : List UInt32} {k : UInt32} (h1 : done.Nodup) (h2 : ∀ k ∈ done, k ∈ l.map (·.1)) (hk : k ∈ l.map (·.1)) (hd : k ∉ done) : done.length < l.length := by
  have h3 : (k :: done).Nodup := List.nodup_cons.2 ⟨hd, h1⟩
  have := nodup_len (l := k :: done) (l' := l.map (·.1)) h3 fun x hx => by
    rcases List.mem_cons.1 hx with rfl | hx
    · exact hk
    · exact h2 x hx
  simp at this
  omega
theorem nodup_snoc {done : List UInt32} {k : UInt32} (h1 : done.Nodup) (hd : k ∉ done) : (done ++ [k]).Nodup := by
  rw [List.nodup_append]
  exact ⟨h1, by simp, fun a ha b hb => by rw [List.mem_singleton.1 hb]; rintro rfl; exact hd ha⟩
section
open Go.Sort
def srtU (l : List UInt32) : List UInt32 := l.mergeSort fun x y => decide (x ≤ y)
theorem srtU_perm (l : List UInt32) : (srtU l).Perm l := List.mergeSort_perm _ _
theorem le_tr (a b c : UInt32) : decide (a ≤ b) = true → decide (b ≤ c) = true → decide (a ≤ c) = true := by
  simp only [decide_eq_true_eq, UInt32.le_iff_toNat_le]; omega
theorem srtU_sorted (l : List UInt32) : (srtU l).Pairwise (fun x y => x ≤ y) := by
  have := List.pairwise_mergeSort (le := fun x y : UInt32 => decide (x ≤ y)) le_tr (fun a b => by simp only [Bool.or_eq_true, decide_eq_true_eq, UInt32.le_iff_toNat_le]; omega) l
  exact this.imp (fun h => of_decide_eq_true h)
end
end Go.HL
namespace Go.HL
open Go Go.RowKit Go.ChangeMaps Go.MapKept
section
variable {P : Program} {ops : Array Oper} {Q : Exit → Act → World → Prop} {N : Nat} {F : Bg} {L : List Ent} {M : Fr} {dst : Option Tmp} {ty : TypeId} {pos : String} {after : Array Edge} {g : Option (Nat × Bool)} {rest : List Oper} {d : Nat}
theorem ptr_eq_in {t e : TypeId} {p : Option Addr} (ht : P.underlying t = some (.pointer e)) (d : Nat) (w : World) : (Op.equalIn (d + 1) t (.pointer p) (.pointer none)).run P w = .ok p.isNone w := by
  cases p <;> simp [Op.equalIn, run_underlying ht]
theorem ptr_eq_run {t e : TypeId} {p : Option Addr} (ht : P.underlying t = some (.pointer e)) (w : World) : (Op.equal t (.pointer p) (.pointer none)).run P w = .ok p.isNone w := ptr_eq_in ht 9999 w
theorem map_eq_in {t k e : TypeId} {p : Option Nat} (ht : P.underlying t = some (.map k e)) (d : Nat) (w : World) : (Op.equalIn (d + 1) t (.map p) (.map none)).run P w = .ok p.isNone w := by
  cases p <;> simp [Op.equalIn, run_underlying ht]
theorem map_eq_run {t k e : TypeId} {p : Option Nat} (ht : P.underlying t = some (.map k e)) (w : World) : (Op.equal t (.map p) (.map none)).run P w = .ok p.isNone w := map_eq_in ht 9999 w
theorem QS.eqlPN {x y : Operand} {t e u : TypeId} {p : Option Addr} {b : Bool} (hx : opv M x = some (.pointer p)) (hy : opv M y = some (.pointer none)) (ht : P.underlying t = some (.pointer e)) (hb : p.isNone = b) :
    QS P N F L M ⟨dst, .binOp .eql t x y u, ty, pos, after, g⟩ (.bool b) :=
  QS.of_run fun a w ha _ => by
    subst hb
    have he : (eqGuard .eql t x y (.pointer p) (.pointer none)).run P w = .ok () w := by unfold eqGuard; simp
    have hq := ptr_eq_run (P := P) (p := p) ht w
    simp [execOp, ha.eval hx, ha.eval hy, binOp, he, hq]
theorem QS.neqPN {x y : Operand} {t e u : TypeId} {p : Option Addr} {b : Bool} (hx : opv M x = some (.pointer p)) (hy : opv M y = some (.pointer none)) (ht : P.underlying t = some (.pointer e)) (hb : p.isSome = b) :
    QS P N F L M ⟨dst, .binOp .neq t x y u, ty, pos, after, g⟩ (.bool b) :=
  QS.of_run fun a w ha _ => by
    subst hb
    have he : (eqGuard .neq t x y (.pointer p) (.pointer none)).run P w = .ok () w := by unfold eqGuard; simp
    have hq := ptr_eq_run (P := P) (p := p) ht w
    simp [execOp, ha.eval hx, ha.eval hy, binOp, he, hq]
theorem QS.neqMN {x y : Operand} {t k e u : TypeId} {p : Option Nat} {b : Bool} (hx : opv M x = some (.map p)) (hy : opv M y = some (.map none)) (ht : P.underlying t = some (.map k e)) (hb : p.isSome = b) :
    QS P N F L M ⟨dst, .binOp .neq t x y u, ty, pos, after, g⟩ (.bool b) :=
  QS.of_run fun a w ha _ => by
    subst hb
    have he : (eqGuard .neq t x y (.map p) (.map none)).run P w = .ok () w := by unfold eqGuard; simp
    have hq := map_eq_run (P := P) (p := p) ht w
    simp [execOp, ha.eval hx, ha.eval hy, binOp, he, hq]
theorem mval_u8 (o : Option UInt8) : mval u8V (.int .u8 0) o = .int .u8 ((o.getD 0).toNat : Int) := by cases o <;> rfl
theorem QS.look8BOk {l : WL} {x y : Operand} {t K e : TypeId} {b : Nat} {k : UInt32} (hx : opv M x = some (.map (some b))) (hy : opv M y = some (.int .u32 k.toNat)) (hm : MapIn F.blk b u8V l)
    (ht : P.underlying t = some (.map K e)) (hK : P.underlying K = some (.int .u32)) (hz : ∀ w, (zeroValue e).run P w = .ok (.int .u8 0) w) : QS P N F L M ⟨dst, .lookup t x y true, ty, pos, after, g⟩ (.tuple #[.int .u8 ((mget l k).getD 0).toNat, .bool (mget l k).isSome]) := by
  have h := QS.lookBOk (P := P) (N := N) (F := F) (L := L) (M := M) (dst := dst) (ty := ty) (pos := pos) (after := after) (g := g) hx hy hm ht hK hz
  rw [mval_u8] at h; exact h
theorem Tr.callOV {ι : Type} (φ : ι → Value) (Lo : List Ent) (Ls : ι → List Ent) {ok : ι → Prop} {f : FuncId} {fx : Operand} {xs : List Operand} {vs : List Value} {ts : Array TypeId} {R : List Ent} {dd : World → Nat} (hf : opv M fx = some (.func (.func f) #[] #[])) (hx : opvs M xs = some vs)
    (he : ∀ (args : Array Value) (w : World), (callFunc f args).run P w = .ok (.enter f args) w) (hs : Split L Lo R) (hdd : ∀ w, HpOK F L w → F.dr ≤ dd w)
    (hc : ∀ w, HpOK F L w → Calls P f vs.toArray w fun e w' => ∃ i, e = .returned (φ i) ∧ Upd (dd w) w w' (blks Lo) (Ls i) ∧ ok i) (hd : Nat.ble (d + 1) N = true)
    (K : ∀ i, ok i → Tr N F (Ls i ++ R) ((d, φ i) :: M) (wpList P ops Q rest)) :
    Tr N F L M (wpList P ops Q (⟨some d, .call { callee := .value fx, args := xs.toArray, argTypes := ts }, ty, pos, after, none⟩ :: rest)) := by
  intro a w ha hw
  refine wpList_plain rfl fun K' hK => ?_
  have hr : (execOp a.eval ⟨some d, .call { callee := .value fx, args := xs.toArray, argTypes := ts }, ty, pos, after, none⟩).run P w = .ok (.enter f vs.toArray) w := by
    have := ha.evals hx
    simp [execOp, resolve, Deferred.ofValue, ha.eval hf, invoke, he, this]
  unfold Oper.wp
  rw [hr]
  refine (hc w hw).mono fun e w' ⟨i, h1, h2, h3⟩ => ?_
  subst h1
  exact hK _ _ (K i h3 _ _ (ha.put (Nat.le_of_ble_eq_true hd)) ((hw.perm hs.perm.symm).updated (hdd w hw) h2))
/-- A change that leaves more of one's own alone. -/
theorem Upd.frame {dr : Nat} {w w' : World} {Lo Ls R : List Ent} (h : OwnAt w (Lo ++ R)) (u : Upd dr w w' (blks Lo) Ls) : Upd dr w w' (blks (Lo ++ R)) (Ls ++ R) := by
  have hb : blks (Lo ++ R) = blks Lo ++ blks R := List.filterMap_append
  have hb' : blks (Ls ++ R) = blks Ls ++ blks R := List.filterMap_append
  have hnd := List.nodup_append.1 (hb ▸ h.nodup)
  have notR : ∀ b ∈ blks R, b ∉ blks Lo := fun b hr hl => hnd.2.2 b hl b hr rfl
  have ltR : ∀ b ∈ blks R, b < w.heap.size := fun b hr => h.lt b (by rw [hb]; exact List.mem_append_right _ hr)
  refine ⟨u.os, u.tape, u.output, u.size, u.dr, fun k hk hn => u.block k hk (fun hm => hn (by rw [hb]; exact List.mem_append_left _ hm)), fun e he => ?_, ?_, fun b m => ?_, fun b m => ?_⟩
  · rcases List.mem_append.1 he with he | he
    · exact u.ent e he
    · have hh := h.ent e (List.mem_append_right _ he)
      unfold Ent.holds at *
      cases hk : e.blk with
      | none => rw [hk] at hh; exact hh
      | some b =>
        rw [hk] at hh
        simp only [Option.bind_some] at *
        have hm : b ∈ blks R := List.mem_filterMap.2 ⟨e, he, hk⟩
        rw [u.block b (ltR b hm) (notR b hm)]; exact hh
  · rw [hb', List.nodup_append]
    refine ⟨u.nodup, hnd.2.1, fun a ha b hr e => ?_⟩
    subst e
    rcases u.own a ha with m | m
    · exact notR a hr m
    · have := ltR a hr; omega
  · rw [hb'] at m
    rcases List.mem_append.1 m with m | m
    · exact u.lt b m
    · exact Nat.lt_of_lt_of_le (ltR b m) u.size
  · rw [hb'] at m
    rcases List.mem_append.1 m with m | m
    · rcases u.own b m with q | q
      · exact .inl (by rw [hb]; exact List.mem_append_left _ q)
      · exact .inr q
    · exact .inl (by rw [hb]; exact List.mem_append_right _ m)
end
def iterE (r b : Nat) (es : Array MapEntry) (ck : Nat) (done : List UInt32) : Ent := ⟨some r, IterOK b es ck done⟩
section
variable {P : Program} {ops : Array Oper} {Q : Exit → Act → World → Prop} {N : Nat} {F : Bg} {L : List Ent} {M : Fr} {rest : List Oper} {d : Nat}
theorem Tr.rangeE {α : Type} {f : α → Value} {l : List (UInt32 × α)} {x : Operand} {t K e ty : TypeId} {pos : String} {after : Array Edge} {b : Nat} {es : Array MapEntry} {ck : Nat} (hx : opv M x = some (.map (some b))) (hm : MapIs f l es ck) (hb : F.blk b = some (.map es ck)) (ht : P.underlying t = some (.map K e)) (hd : Nat.ble (d + 1) N = true)
    (Kk : ∀ r, Tr N F (iterE r b es ck [] :: L) ((d, .pointer (some ⟨r, 0, none⟩)) :: M) (wpList P ops Q rest)) : Tr N F L M (wpList P ops Q (⟨some d, .range t x, ty, pos, after, none⟩ :: rest)) := by
  intro a w ha hw
  refine wpList_plain rfl fun K' hK => ?_
  have hrun := run_range_map (P := P) w t K e b es ck ht (hw.bg b _ hb)
  unfold Oper.wp
  simp only [execOp, ha.eval hx, Sem.run_bind, hrun, Result.andThen_ok, Sem.run_pure, Oper.upon]
  exact hK _ _ (Kk w.heap.size _ _ (ha.put (Nat.le_of_ble_eq_true hd)) (hw.alloc _ _ (IterOK.start hm)))
theorem Tr.nextE {α : Type} {f : α → Value} {l : List (UInt32 × α)} {it id d1 d2 : Nat} {t1 t2 : TypeId} {p1 p2 : String} {a1 a2 : Array Edge} {b r : Nat} {es : Array MapEntry} {ck : Nat} {done : List UInt32} {L1 : List Ent} (hx : look M it = some (.pointer (some ⟨r, 0, none⟩))) (hm : MapIs f l es ck) (hb : F.blk b = some (.map es ck)) (hI : Del (iterE r b es ck done) L L1)
    (hd1 : Nat.ble (d1 + 1) N = true) (hd2 : Nat.ble (d2 + 1) N = true)
    (K1 : ∀ k x, mget l k = some x → k ∈ l.map (·.1) → k ∉ done → Tr N F (iterE r b es ck (done ++ [k]) :: L1) ((d2, .bool true) :: (d1, .tuple #[.bool true, keyV k, f x]) :: M) (Q .normal))
    (K0 : (∀ k ∈ l.map (·.1), k ∈ done) → Tr N F (iterE r b es ck done :: L1) ((d2, .bool false) :: (d1, .tuple #[.bool false]) :: M) (Q .normal)) :
    Tr N F L M ((Code.region id #[⟨some d1, .next (.tmp it) false, t1, p1, a1, none⟩, ⟨some d2, .extract (.tmp d1) 0, t2, p2, a2, none⟩] false).wp P Q) := by
  refine Tr.perm hI.perm.symm ?_
  intro a w ha hw
  have hit := ha.eval (x := .tmp it) (v := .pointer (some ⟨r, 0, none⟩)) hx
  have hII : IterOK b es ck done (w.heap[r]?) := hw.ent _ (.head _)
  refine wp_region_lit (l := [_, _]) (wpList_plain rfl fun K' hK => ?_)
  rcases next_iter (P := P) hm (hw.bg b _ hb) hII t1 with ⟨h0, hrun⟩ | ⟨k, x, w1, o, hal, hx2, hkl, hkd, hI2, hrun⟩
  · unfold Oper.wp
    simp only [execOp, hit, Sem.run_bind, hrun, Result.andThen_ok, Sem.run_pure, Oper.upon]
    refine hK _ _ ?_
    exact Tr.q (QS.extract (x := .tmp d1) (vs := #[.bool false]) (by show look _ d1 = _; rw [look_cons, if_pos rfl]) rfl) hd2 (Tr.nil (K0 h0)) _ _ (ha.put (Nat.le_of_ble_eq_true hd1)) hw
  · unfold Oper.wp
    simp only [execOp, hit, Sem.run_bind, hrun, Result.andThen_ok, Sem.run_pure, Oper.upon]
    refine hK _ _ ?_
    have hrl : r < w.heap.size := hw.lt r (by rw [blks_some (b := r) rfl]; exact .head _)
    have hw1 : w1.heap = w.heap := by rcases hal with rfl | rfl <;> rfl
    have hset : HpOK F (iterE r b es ck (done ++ [k]) :: L1) (setBlock w1 r o) := by
      refine HpOK.set (w := w) (b := r) hw (Put.here _) ?_ ?_ ?_ ?_ ?_ (fun j _ hj => ?_) ?_
      · rcases hal with rfl | rfl <;> rfl
      · rcases hal with rfl | rfl <;> rfl
      · rcases hal with rfl | rfl <;> rfl
      · rcases hal with rfl | rfl <;> simp [setBlock]
      · rcases hal with rfl | rfl
        · exact Nat.le_refl _
        · exact Nat.le_succ _
      · rw [setBlock_other hj, hw1]
      · rw [setBlock_same (by rw [hw1]; exact hrl)]; exact hI2
    exact Tr.q (QS.extract (x := .tmp d1) (vs := #[.bool true, keyV k, f x]) (by show look _ d1 = _; rw [look_cons, if_pos rfl]) rfl) hd2 (Tr.nil (K1 k x hx2 hkl hkd)) _ _ (ha.put (Nat.le_of_ble_eq_true hd1)) hset
theorem QS.entryE {α : Type} {f : α → Value} {l : List (UInt32 × α)} {x : Operand} {dst : Option Tmp} {ty : TypeId} {pos : String} {after : Array Edge} {g : Option (Nat × Bool)} {b r : Nat} {es : Array MapEntry} {ck : Nat} {done : List UInt32} {k : UInt32} {y : α} (hx : opv M x = some (.pointer (some ⟨r, 0, none⟩))) (hm : MapIs f l es ck) (hb : F.blk b = some (.map es ck)) (hI : iterE r b es ck done ∈ L) (hl : done.getLast? = some k) (hy : mget l k = some y) :
    QS P N F L M ⟨dst, .entry x, ty, pos, after, g⟩ (.tuple #[keyV k, f y]) :=
  QS.of_run fun A w ha hw => by
    have hII : IterOK b es ck done (w.heap[r]?) := hw.ent _ hI
    simp [execOp, ha.eval hx, entry_iter (P := P) hm (hw.bg b _ hb) hII hl hy]
end
structure MemAt (h : Hp) (bM bm : Nat) (VR : Value) (rs : List RegV) : Prop where
  cells : CellsIn h bM [VR, .map (some bm)]
  regs : Sl h encReg rs VR
  data : RegIn h rs
theorem MemAt.mono {h h' : Hp} {bM bm : Nat} {VR : Value} {rs : List RegV} (m : MemAt h bM bm VR rs) (hh : Hp.le h h') : MemAt h' bM bm VR rs := ⟨m.cells.mono hh, m.regs.mono hh, m.data.mono hh⟩
theorem zeroReg_in (h : Hp) : Sl h encU8 zeroReg.data (.slice zeroReg.dp zeroReg.data.length zeroReg.dc) := Sl.nil _ _
theorem MemAt.fnd {h : Hp} {bM bm : Nat} {VR : Value} {rs : List RegV} (m : MemAt h bM bm VR rs) (a : UInt32) : Sl h encU8 (fndR rs a).data (.slice (fndR rs a).dp (fndR rs a).data.length (fndR rs a).dc) := by
  unfold fndR
  split
  · exact zeroReg_in h
  · rename_i hf
    have hb := idxP_ge (inG a) rs 0 (by unfold fndI at hf; omega)
    exact m.data _ (mem_getD (by unfold fndI; omega))
/-- The rows of the regions' bytes. -/
def dRowR (U : TypeId) (r : RegV) : Ent := rowE (.slice r.dp r.data.length r.dc) U encU8 r.data
def regEnts (U : TypeId) (rs : List RegV) : List Ent := rs.reverse.map (dRowR U)
theorem regEnts_snoc (U : TypeId) (rs : List RegV) (r : RegV) : regEnts U (rs ++ [r]) = dRowR U r :: regEnts U rs := by simp [regEnts]
theorem regEnts_mem {U : TypeId} {rs : List RegV} {r : RegV} (h : r ∈ rs) : dRowR U r ∈ regEnts U rs := List.mem_map.2 ⟨r, List.mem_reverse.2 h, rfl⟩
theorem Pick.skip {e : Ent} {L L' : List Ent} (h : Pick L L') : Pick (e :: L) L' := by
  induction h with
  | nil => exact .nil _
  | cons hd _ ih => exact .cons (.there _ hd) ih
theorem memAt_of {h : Hp} {bM bm : Nat} {VR : Value} {T T2 U : TypeId} {rs : List RegV} {Ls : List Ent} (k : ∀ e ∈ Ls, e.ok (e.blk.bind h)) (h1 : cellE bM [VR, .map (some bm)] T ∈ Ls) (h2 : rowE VR T2 encReg rs ∈ Ls) (h3 : ∀ e ∈ regEnts U rs, e ∈ Ls) : MemAt h bM bm VR rs :=
  ⟨cellE.cellsInL k h1, RowOK.sl (k _ h2), fun r hr => RowOK.sl (k _ (h3 _ (regEnts_mem hr)))⟩
def chgB (l : List SecV) (wl : WL) (k : UInt32) : Bool := decide (initA l k ≠ (mget wl k).getD 0)
def chgL (l : List SecV) (wl : WL) (done : List UInt32) : List UInt32 := done.filter (chgB l wl)
theorem chgL_len (l : List SecV) (wl : WL) (done : List UInt32) : (chgL l wl done).length ≤ done.length := List.length_filter_le _ _
theorem chgL_yes {l : List SecV} {wl : WL} {done : List UInt32} {k : UInt32} {x : UInt8} (hx : mget wl k = some x) (h : initA l k ≠ x) : chgL l wl done ++ [k] = chgL l wl (done ++ [k]) := by
  unfold chgL
  rw [List.filter_append, List.filter_cons_of_pos (by unfold chgB; rw [hx]; exact decide_eq_true h)]; rfl
theorem chgL_no {l : List SecV} {wl : WL} {done : List UInt32} {k : UInt32} {x : UInt8} (hx : mget wl k = some x) (h : initA l k = x) : chgL l wl done = chgL l wl (done ++ [k]) := by
  unfold chgL
  rw [List.filter_append, List.filter_cons_of_neg (by unfold chgB; rw [hx]; simpa using h)]; simp
theorem chgL_is {l : List SecV} {wl : WL} {done : List UInt32} (hn : (wl.map (·.1)).Nodup) (h1 : done.Nodup) (h2 : ∀ k ∈ done, k ∈ wl.map (·.1)) (h3 : ∀ k ∈ wl.map (·.1), k ∈ done) : IsChg l (mread wl) (srtU (chgL l wl done)) := by
  refine ⟨?_, fun a => ?_⟩
  · have hnd : (chgL l wl done).Nodup := h1.filter _
    have hs := srtU_sorted (chgL l wl done)
    have hd : (srtU (chgL l wl done)).Nodup := (srtU_perm _).nodup_iff.2 hnd
    refine (hs.and hd).imp fun {x y} ⟨q1, q2⟩ => ?_
    rw [UInt32.lt_iff_toNat_lt]
    rw [UInt32.le_iff_toNat_le] at q1
    have : x.toNat ≠ y.toNat := fun e => q2 (UInt32.toNat_inj.1 e)
    omega
  · rw [(srtU_perm _).mem_iff]
    unfold chgL
    rw [List.mem_filter]
    constructor
    · rintro ⟨q1, q2⟩
      obtain ⟨x, hx⟩ := Option.isSome_iff_exists.1 (mget_mem.2 (h2 a q1))
      refine ⟨x, hx, ?_⟩
      unfold chgB at q2
      rw [hx] at q2
      exact fun e => (of_decide_eq_true q2) e.symm
    · rintro ⟨b, hb, hne⟩
      have hb' : mget wl a = some b := hb
      refine ⟨h3 a (mget_mem.1 (by rw [hb']; rfl)), ?_⟩
      unfold chgB
      rw [hb']
      exact decide_eq_true fun e => hne e.symm
def mapR (l : List SecV) (rs : List RegV) (a : UInt32) (n : Int) : RegV := if restA l a < n then zeroReg else fndR rs a
def mapE_ (l : List SecV) (a : UInt32) (n : Int) : Int := if restA l a < n then 11 else 0
section
variable {l : List SecV} {rs : List RegV} {a : UInt32} {n : Int} {w : WrF}
theorem MemOK.mapd (h : MemOK l rs) (hn : 1 ≤ n) : restA l a < n ↔ (fndI rs a < 0 ∨ ((fndR rs a).org : Int) + (fndR rs a).data.length - a.toNat < n) := by
  by_cases hf : fndI rs a < 0
  · have := (h.none hf).2
    exact ⟨fun _ => .inl hf, fun _ => by omega⟩
  · rw [h.rest hf]
    exact ⟨.inr, fun q => q.elim (fun q => absurd q hf) id⟩
theorem MemOK.mapd_ok (h : MemOK l rs) (hn : 1 ≤ n) (hq : ¬ restA l a < n) : ¬ fndI rs a < 0 ∧ mapR l rs a n = fndR rs a ∧ mapE_ l a n = 0 ∧ (fndR rs a).org ≤ a.toNat ∧ a.toNat ≤ (fndR rs a).org + (fndR rs a).data.length ∧ (fndR rs a).org + (fndR rs a).data.length ≤ 4294967295 := by
  rw [h.mapd hn] at hq
  have hf : ¬ fndI rs a < 0 := fun q => hq (.inl q)
  have hq2 : ¬ restA l a < n := by rw [h.mapd hn]; exact hq
  obtain ⟨_, _, _, h1, h2⟩ := h.reg hf
  have := h.top hf
  exact ⟨hf, by unfold mapR; rw [if_neg hq2], by unfold mapE_; rw [if_neg hq2], h1, by omega, this.1⟩
theorem MemOK.pres6 {wl : WL} (h : MemOK l rs) (hf : ¬ fndI rs a < 0) : presR (fndR rs a) wl a 6 = bytesA l (mread wl) a (min 6 (restA l a)).toNat := by
  have hr := h.rest hf
  obtain ⟨_, _, _, h1, h2⟩ := h.reg hf
  rw [← h.pres hf (n := (min 6 (restA l a)).toNat) (by omega)]
  unfold presR
  congr 1
  rw [List.take_eq_take_iff, List.length_drop]
  omega
theorem widP_iff : widP n = true ↔ n = 1 ∨ n = 2 ∨ n = 4 := by unfold widP; exact decide_eq_true_iff
theorem widP_rng (h : widP n = true) : 1 ≤ n ∧ n ≤ 4 := by have := widP_iff.1 h; omega
theorem load_1 (h : widP n = false) : loadA l w a n = (0, 2) := by unfold loadA; rw [if_pos h]
theorem load_2 (h : ¬ widP n = false) (h2 : restA l a < n) : loadA l w a n = (0, 11) := by unfold loadA; rw [if_neg h, if_pos h2]
theorem load_3 (h : ¬ widP n = false) (h2 : ¬ restA l a < n) : loadA l w a n = (leP (bytesA l w a n.toNat), 0) := by unfold loadA; rw [if_neg h, if_neg h2]
theorem store_1 {x : UInt32} (h : widP n = false) : storeA l w a n x = (w, 2) := by unfold storeA; rw [if_pos h]
theorem store_2 {x : UInt32} (h : ¬ widP n = false) (h2 : restA l a < n) : storeA l w a n x = (w, 11) := by unfold storeA; rw [if_neg h, if_pos h2]
theorem store_3 {x : UInt32} (h : ¬ widP n = false) (h2 : ¬ restA l a < n) (h3 : wrA l a = false) : storeA l w a n x = (w, 12) := by unfold storeA; rw [if_neg h, if_neg h2, if_pos h3]
theorem store_4 {x : UInt32} (h : ¬ widP n = false) (h2 : ¬ restA l a < n) (h3 : ¬ wrA l a = false) : storeA l w a n x = (putN w a x n.toNat, 0) := by unfold storeA; rw [if_neg h, if_neg h2, if_neg h3]
theorem fetch_1 (h : noReg l a = true) : fetchA l w a = ([], 11) := by unfold fetchA; rw [if_pos h]
theorem fetch_2 (h : ¬ noReg l a = true) (h2 : exA l a = false) : fetchA l w a = ([], 12) := by unfold fetchA; rw [if_neg h, if_pos h2]
theorem fetch_3 (h : ¬ noReg l a = true) (h2 : ¬ exA l a = false) : fetchA l w a = (bytesA l w a (min 6 (restA l a)).toNat, 0) := by unfold fetchA; rw [if_neg h, if_neg h2]
end
structure Rts where
  w : Bool
  x : Bool
  deriving DecidableEq
def encRts : Enc Rts := ⟨2, fun f => [.bool f.w, .bool f.x], fun _ => rfl, fun x v h => by simp at h; rcases h with h | h <;> subst h <;> rfl⟩
theorem rtsEqEnc : EqEnc encRts [.bool, .bool] [0, 1] := by
  intro x y
  refine ⟨fun j o e ho he => ?_, ?_⟩
  · rcases j with _ | _ | j <;> simp at ho he <;> subst ho <;> subst he <;> trivial
  · obtain ⟨a0, a1⟩ := x
    obtain ⟨c0, c1⟩ := y
    rw [Bool.eq_iff_iff]
    simp [eqAt, encRts]
end Go.HL
namespace Go.HL
open Go Go.Sort
def ltW (x y : UInt32) : Bool := decide (x < y)
theorem swo_ltW : SWO ltW where
  irrefl x := by simp [ltW]
  trans x y z h1 h2 := by simp only [ltW, decide_eq_true_eq, UInt32.lt_iff_toNat_lt] at *; omega
  ntrans x y z h1 h2 := by simp only [ltW, decide_eq_false_iff_not, UInt32.lt_iff_toNat_lt] at *; omega
theorem bang {d : Array UInt32} {i : Nat} : d.toList.getD i default = d[i]! := by
  rw [List.getD_eq_getElem?_getD, Array.getElem?_toList, Array.getElem!_eq_getD, Array.getD_eq_getD_getElem?]
theorem set_swp {d : Array UInt32} {i j : Nat} : (d.toList.set i d[j]!).set j d[i]! = (swp d i j).toList := by
  simp [swp, Array.toList_setIfInBounds]
theorem swpW {d : Array UInt32} {i j : Nat} : (swp d i j).size = d.size := by simp [swp]
theorem insOuter_ge {a b i : Nat} {d : Array UInt32} (h : b ≤ i) : insOuter ltW a b i d = d := by rw [insOuter, if_neg (by omega)]
theorem insOuter_lt {a b i : Nat} {d : Array UInt32} (h : i < b) : insOuter ltW a b i d = insOuter ltW a b (i + 1) (insInner ltW a i d) := by rw [insOuter, if_pos h]
theorem own_insInner_go {a j : Nat} {d : Array UInt32} (h : a < j) (h2 : ltW d[j]! d[j - 1]! = true) : insInner ltW a j d = insInner ltW a (j - 1) (swp d j (j - 1)) := by
  cases j with
  | zero => omega
  | succ j => rw [insInner, if_pos (by simp only [Bool.and_eq_true, decide_eq_true_eq]; exact ⟨h, h2⟩)]; rfl
theorem own_insInner_stop {a j : Nat} {d : Array UInt32} (h : j ≤ a ∨ ltW d[j]! d[j - 1]! = false) : insInner ltW a j d = d := by
  cases j with
  | zero => rfl
  | succ j =>
    rw [insInner, if_neg]
    simp only [Bool.and_eq_true, decide_eq_true_eq]
    rintro ⟨h1, h2⟩
    rcases h with h | h
    · omega
    · rw [show j + 1 - 1 = j from rfl, h2] at h; cases h
theorem sift_end {hi f r : Nat} {d : Array UInt32} (h : hi ≤ 2 * r + 1) : siftDown ltW hi f r d = d := by rw [siftDown, dif_pos h]
theorem sift_r {hi f r : Nat} {d : Array UInt32} (h : 2 * r + 2 < hi) (hl : ltW d[f + (2 * r + 1)]! d[f + (2 * r + 1) + 1]! = true) :
    siftDown ltW hi f r d = if ltW d[f + r]! d[f + (2 * r + 2)]! = true then siftDown ltW hi f (2 * r + 2) (swp d (f + r) (f + (2 * r + 2))) else d := by
  rw [siftDown, dif_neg (by omega), if_pos (by simp only [Bool.and_eq_true, decide_eq_true_eq]; exact ⟨by omega, hl⟩), dif_pos h]
  cases ltW d[f + r]! d[f + (2 * r + 2)]! <;> rfl
theorem sift_l {hi f r : Nat} {d : Array UInt32} (h : 2 * r + 1 < hi) (hl : hi ≤ 2 * r + 2 ∨ ltW d[f + (2 * r + 1)]! d[f + (2 * r + 1) + 1]! = false) :
    siftDown ltW hi f r d = if ltW d[f + r]! d[f + (2 * r + 1)]! = true then siftDown ltW hi f (2 * r + 1) (swp d (f + r) (f + (2 * r + 1))) else d := by
  rw [siftDown, dif_neg (by omega), if_neg]
  · cases ltW d[f + r]! d[f + (2 * r + 1)]! <;> rfl
  · simp only [Bool.and_eq_true, decide_eq_true_eq]
    rintro ⟨q1, q2⟩
    rcases hl with hl | hl
    · omega
    · rw [q2] at hl; cases hl
theorem sift_size {hi f : Nat} : ∀ (n r : Nat) (d : Array UInt32), hi - r ≤ n → (siftDown ltW hi f r d).size = d.size
  | n, r, d, h => by
    by_cases c1 : hi ≤ 2 * r + 1
    · rw [sift_end c1]
    · cases n with
      | zero => omega
      | succ n =>
        by_cases c2 : 2 * r + 2 < hi ∧ ltW d[f + (2 * r + 1)]! d[f + (2 * r + 1) + 1]! = true
        · rw [sift_r c2.1 c2.2]
          split
          · rw [sift_size n (2 * r + 2) _ (by omega), swpW]
          · rfl
        · rw [sift_l (by omega) (by
            by_cases q : 2 * r + 2 < hi
            · refine .inr ?_
              cases e : ltW d[f + (2 * r + 1)]! d[f + (2 * r + 1) + 1]!
              · rfl
              · exact absurd ⟨q, e⟩ c2
            · exact .inl (by omega))]
          split
          · rw [sift_size n (2 * r + 1) _ (by omega), swpW]
          · rfl
theorem siftW {hi f r : Nat} {d : Array UInt32} : (siftDown ltW hi f r d).size = d.size := sift_size _ _ _ (Nat.le_refl _)
theorem rev_stop {i j : Nat} {d : Array UInt32} (h : ¬ i < j) : reverseLoop i j d = d := by rw [reverseLoop, if_neg h]
theorem rev_go {i j : Nat} {d : Array UInt32} (h : i < j) : reverseLoop i j d = reverseLoop (i + 1) (j - 1) (swp d i j) := by rw [reverseLoop, if_pos h]
theorem up_go {p : UInt32 → Bool} {d : Array UInt32} {i j : Nat} (h : i ≤ j) (hp : p d[i]! = true) : scanUp p d j i = scanUp p d j (i + 1) := by
  rw [scanUp, if_pos (by simp only [Bool.and_eq_true, decide_eq_true_eq]; exact ⟨h, hp⟩)]
theorem up_stop {p : UInt32 → Bool} {d : Array UInt32} {i j : Nat} (h : j < i ∨ p d[i]! = false) : scanUp p d j i = i := by
  rw [scanUp, if_neg]
  simp only [Bool.and_eq_true, decide_eq_true_eq]
  rintro ⟨q1, q2⟩
  rcases h with h | h
  · omega
  · rw [q2] at h; cases h
theorem down_go {p : UInt32 → Bool} {d : Array UInt32} {i j : Nat} (h : i ≤ j) (h0 : 0 < j) (hp : p d[j]! = true) : scanDown p d i j = scanDown p d i (j - 1) := by
  obtain ⟨k, rfl⟩ : ∃ k, j = k + 1 := ⟨j - 1, by omega⟩
  rw [scanDown, if_pos (by simp only [Bool.and_eq_true, decide_eq_true_eq]; exact ⟨h, hp⟩)]; rfl
theorem down_stop {p : UInt32 → Bool} {d : Array UInt32} {i j : Nat} (h : j < i ∨ p d[j]! = false) : scanDown p d i j = j := by
  cases j with
  | zero => rfl
  | succ k =>
    rw [scanDown, if_neg]
    simp only [Bool.and_eq_true, decide_eq_true_eq]
    rintro ⟨q1, q2⟩
    rcases h with h | h
    · omega
    · rw [q2] at h; cases h
theorem part_end {a i j I J : Nat} {d : Array UInt32} (hI : scanUp (fun x => ltW x d[a]!) d j i = I) (hJ : scanDown (fun x => !ltW x d[a]!) d I j = J) (h : J < I) : partLoop ltW a i j d = (J, d) := by
  rw [partLoop]; simp only [hI, hJ]; rw [if_pos h]
theorem own_part_go {a i j I J : Nat} {d : Array UInt32} (hI : scanUp (fun x => ltW x d[a]!) d j i = I) (hJ : scanDown (fun x => !ltW x d[a]!) d I j = J) (h : I < J) (h1 : i ≤ I) (h2 : J ≤ j) :
    partLoop ltW a i j d = partLoop ltW a (I + 1) (J - 1) (swp d I J) := by
  rw [partLoop]; simp only [hI, hJ]; rw [if_neg (by omega), dif_pos (by omega)]
theorem parteq_end {a i j I J : Nat} {d : Array UInt32} (hI : scanUp (fun x => !ltW d[a]! x) d j i = I) (hJ : scanDown (fun x => ltW d[a]! x) d I j = J) (h : J < I) : partEqLoop ltW a i j d = (I, d) := by
  rw [partEqLoop]; simp only [hI, hJ]; rw [if_pos h]
theorem parteq_go {a i j I J : Nat} {d : Array UInt32} (hI : scanUp (fun x => !ltW d[a]! x) d j i = I) (hJ : scanDown (fun x => ltW d[a]! x) d I j = J) (h : I < J) (h1 : i ≤ I) (h2 : J ≤ j) :
    partEqLoop ltW a i j d = partEqLoop ltW a (I + 1) (J - 1) (swp d I J) := by
  rw [partEqLoop]; simp only [hI, hJ]; rw [if_neg (by omega), dif_pos (by omega)]
theorem ss_go {b i : Nat} {d : Array UInt32} (h : i < b) (hl : ltW d[i]! d[i - 1]! = false) : scanSorted ltW d b i = scanSorted ltW d b (i + 1) := by
  rw [scanSorted, if_pos (by simp only [Bool.and_eq_true, decide_eq_true_eq, Bool.not_eq_true']; exact ⟨h, hl⟩)]
theorem ss_stop {b i : Nat} {d : Array UInt32} (h : b ≤ i ∨ ltW d[i]! d[i - 1]! = true) : scanSorted ltW d b i = i := by
  rw [scanSorted, if_neg]
  simp only [Bool.and_eq_true, decide_eq_true_eq, Bool.not_eq_true']
  rintro ⟨q1, q2⟩
  rcases h with h | h
  · omega
  · rw [q2] at h; cases h
theorem sd_go {j : Nat} {d : Array UInt32} (h : 0 < j) (hl : ltW d[j]! d[j - 1]! = true) : shiftDown ltW j d = shiftDown ltW (j - 1) (swp d j (j - 1)) := by
  obtain ⟨k, rfl⟩ : ∃ k, j = k + 1 := ⟨j - 1, by omega⟩
  rw [shiftDown, if_neg (by rw [show k + 1 - 1 = k from rfl] at hl; simp [hl])]; rfl
theorem sd_stop {j : Nat} {d : Array UInt32} (h : j = 0 ∨ ltW d[j]! d[j - 1]! = false) : shiftDown ltW j d = d := by
  cases j with
  | zero => rfl
  | succ k =>
    rcases h with h | h
    · omega
    · rw [shiftDown, if_pos (by rw [show k + 1 - 1 = k from rfl] at h; simp [h])]
theorem su_go {b j : Nat} {d : Array UInt32} (h : j < b) (hl : ltW d[j]! d[j - 1]! = true) : shiftUp ltW b j d = shiftUp ltW b (j + 1) (swp d j (j - 1)) := by
  rw [shiftUp, if_pos h, if_neg (by simp [hl])]
theorem su_stop {b j : Nat} {d : Array UInt32} (h : b ≤ j ∨ ltW d[j]! d[j - 1]! = false) : shiftUp ltW b j d = d := by
  rw [shiftUp]
  rcases h with h | h
  · rw [if_neg (by omega)]
  · split
    · rw [if_pos (by simp [h])]
    · rfl
theorem own_pi_end {a b k i x : Nat} {d : Array UInt32} (hX : scanSorted ltW d b i = x) (h : x = b) : partialIns ltW a b (k + 1) i d = (d, true) := by
  rw [partialIns]; simp only [hX]; rw [if_pos h]
theorem pi_few {a b k i x : Nat} {d : Array UInt32} (hX : scanSorted ltW d b i = x) (h : x ≠ b) (h2 : b - a < 50) : partialIns ltW a b (k + 1) i d = (d, false) := by
  rw [partialIns]; simp only [hX]; rw [if_neg h, if_pos h2]
theorem own_pi_go {a b k i x : Nat} {d d3 d4 : Array UInt32} (hX : scanSorted ltW d b i = x) (h : x ≠ b) (h2 : ¬ b - a < 50) (h3 : d3 = if x - a ≥ 2 then shiftDown ltW (x - 1) (swp d x (x - 1)) else swp d x (x - 1)) (h4 : d4 = if b - x ≥ 2 then shiftUp ltW b (x + 1) d3 else d3) :
    partialIns ltW a b (k + 1) i d = partialIns ltW a b k x d4 := by
  rw [partialIns]; simp only [hX]; rw [if_neg h, if_neg h2, ← h3, ← h4]
end Go.HL
namespace Go.Proofs.Ytpeaodkfbjenpaa
open Go Go.HL Go.RowKit Go.Sort
set_option maxRecDepth 100000 in
set_option maxHeartbeats 2000000 in
theorem nanU_any (a : UInt32) (w : World) :
  Calls Try.prog 110 #[.int .u32 a.toNat] w (fun e w' => e = .returned (.bool false) ∧ Ext w w') := by
 refine enter Try.func110 rfl Try.ntmps110 rfl ?_
 refine Tr.seq (Tr.region ?_)
 refine Tr.q (QS.assign rfl) rfl ?_
 refine Tr.nil (Tr.thenN (Tr.seq (Tr.region ?_)))
 refine Tr.q (QS.move rfl) rfl ?_
 refine Tr.q (QS.move rfl) rfl ?_
 refine Tr.q (QS.neq32 rfl rfl) rfl ?_
 refine Tr.q (QS.assign rfl) rfl ?_
 refine Tr.nil (Tr.thenN (Tr.ret ?_))
 refine Tr.ret1 Try.results110 rfl (fun w' hw => ?_)
 exact ⟨by simp, hw.below (Bg.le.refl _)⟩
set_option maxRecDepth 100000 in
set_option maxHeartbeats 2000000 in
theorem less_any (a b : UInt32) (w : World) :
  Calls Try.prog 100 #[.int .u32 a.toNat, .int .u32 b.toNat] w (fun e w' => e = .returned (.bool (ltW a b)) ∧ Ext w w') := by
 refine enter Try.func100 rfl Try.ntmps100 rfl ?_
 refine Tr.seq (Tr.region ?_)
 refine Tr.q (QS.assign rfl) rfl ?_
 refine Tr.nil (Tr.thenN (Tr.seq (Tr.region ?_)))
 refine Tr.q (QS.move rfl) rfl ?_
 refine Tr.q (QS.call rfl Try.call110 (fun w hw => nanU_any a w)) rfl ?_
 refine Tr.q (QS.move rfl) rfl ?_
 apply Tr.andP
 ·exact (rfl : _ = (4, 7, 11))
 ·exact rfl
 ·intro hT1; have hT1' := hT1
  try simp only [bs] at hT1'
  refine Tr.gq rfl rfl hT1 (QS.move rfl) rfl ?_
  refine Tr.gq rfl rfl hT1 (QS.call rfl Try.call110 (fun w hw => nanU_any b w)) rfl ?_
  refine Tr.gq rfl rfl hT1 (QS.not rfl) rfl ?_
  refine Tr.q (QS.pickT rfl hT1 rfl) rfl ?_
  refine Tr.nil (Tr.thenN ?_)
  exact Tr.endX (Sub.cons rfl (Sub.dropN 4 (by kernel_rfl) rfl))
 ·intro hF1
  refine Tr.gskip rfl rfl hF1 rfl ?_
  refine Tr.gskip rfl rfl hF1 rfl ?_
  refine Tr.gskip rfl rfl hF1 rfl ?_
  refine Tr.q (QS.pickF rfl hF1 rfl) rfl ?_
  refine Tr.nil (Tr.thenN ?_)
  exact Tr.endX (Sub.cons rfl (Sub.dropN 4 (by kernel_rfl) rfl))
 refine Tr.q (QS.move rfl) rfl ?_
 apply Tr.orP
 ·exact (rfl : _ = (4, 12, 16))
 ·exact rfl
 ·intro hF2; have hF2' := hF2
  try simp only [bs] at hF2'
  refine Tr.gq rfl rfl hF2 (QS.move rfl) rfl ?_
  refine Tr.gq rfl rfl hF2 (QS.move rfl) rfl ?_
  refine Tr.gq rfl rfl hF2 (QS.lss32 rfl rfl) rfl ?_
  refine Tr.q (QS.pickF rfl hF2 rfl) rfl ?_
  refine Tr.nil (Tr.thenN ?_)
  exact Tr.endX (Sub.cons rfl (Sub.dropN 4 (by kernel_rfl) rfl))
 ·intro hT2
  refine Tr.gskip rfl rfl hT2 rfl ?_
  refine Tr.gskip rfl rfl hT2 rfl ?_
  refine Tr.gskip rfl rfl hT2 rfl ?_
  refine Tr.q (QS.pickT rfl hT2 rfl) rfl ?_
  refine Tr.nil (Tr.thenN ?_)
  exact Tr.endX (Sub.cons rfl (Sub.dropN 4 (by kernel_rfl) rfl))
 refine Tr.q (QS.assign rfl) rfl ?_
 refine Tr.nil (Tr.thenN (Tr.ret ?_))
 refine Tr.ret1 Try.results100 rfl (fun w' hw => ?_)
 exact ⟨by simp [ltW], hw.below (Bg.le.refl _)⟩
set_option maxRecDepth 100000 in
set_option maxHeartbeats 4000000 in
theorem insertion_u32 (d : Array UInt32) (V : Value) (a : Nat) (b : Nat) (ai : Int) (bi : Int) (ea : ai = ((a : Nat) : Int)) (eb : bi = ((b : Nat) : Int)) (w : World) (hr : (rowE V 22 encU32 d.toList).holds w) (hd : d.size ≤ 1000000) (hab : a ≤ b) (hb : b ≤ d.size) :
  Calls Try.prog 94 #[V, .int .i64 ai, .int .i64 bi] w (fun e w' => e = .returned (.tuple #[]) ∧ Mut w w' V ∧ (rowE V 22 encU32 (insertionSort ltW d a b).toList).holds w') := by
 subst ea eb
 refine enterOwn (l := d.toList) (E := encU32) (T := 22) hr Try.func94 rfl Try.ntmps94 rfl ?_
 refine Tr.seq (Tr.region ?_)
 refine Tr.q (QS.move rfl) rfl ?_
 refine Tr.q (QS.addI rfl rfl (by omega)) rfl ?_
 refine Tr.q (QS.assign rfl) rfl ?_
 refine Tr.nil (Tr.thenN (Tr.block ?_))
 refine Tr.loop (ι := Nat × Array UInt32) (fun ⟨i, cur⟩ => a + 1 ≤ i ∧ cur.size = d.size ∧ insOuter ltW a b i cur = insertionSort ltW d a b) (fun _ => _) (fun ⟨i, cur⟩ => [rowE V 22 encU32 cur.toList]) (fun ⟨i, cur⟩ => [(6, .int .i64 (i : Nat))]) (fun ⟨i, cur⟩ => b - i) (a + 1, d) ⟨Nat.le_refl _, rfl, rfl⟩ (.cons (by first | rfl | exact lookI rfl (by omega) | exact lookI rfl (by simp) | exact lookB rfl (by simp)) Front.nil) (by repeat' constructor) rfl (fun i hi m hm => ?_)
 obtain ⟨i, cur⟩ := i
 replace hi : a + 1 ≤ i ∧ cur.size = d.size ∧ insOuter ltW a b i cur = insertionSort ltW d a b := hi
 replace hm : m = b - i := hm
 change Tr _ _ [rowE V 22 encU32 cur.toList] ([(6, .int .i64 (i : Nat))] ++ _) _
 obtain ⟨hi1, hi2, hi3⟩ := hi
 have hcl : cur.toList.length = d.size := by rw [Array.length_toList]; exact hi2
 refine Tr.seq (Tr.seq (Tr.region ?_))
 refine Tr.q (QS.move rfl) rfl ?_
 refine Tr.q (QS.move rfl) rfl ?_
 refine Tr.q (QS.lss rfl rfl) rfl ?_
 refine Tr.nil (Tr.thenN ?_)
 refine Tr.cond rfl (fun h1 => ?_) (fun h1 => ?_)
 ·try simp only [bs] at h1
  refine Tr.skip (Tr.thenN (Tr.seq (Tr.block (Tr.seq (Tr.region ?_)))))
  refine Tr.q (QS.move rfl) rfl ?_
  refine Tr.q (QS.assign rfl) rfl ?_
  refine Tr.nil (Tr.thenN (Tr.block ?_))
  refine Tr.loop (ι := Nat × Array UInt32) (fun ⟨j, c2⟩ => j ≤ i ∧ c2.size = d.size ∧ insInner ltW a j c2 = insInner ltW a i cur) (fun _ => _) (fun ⟨j, c2⟩ => [rowE V 22 encU32 c2.toList]) (fun ⟨j, c2⟩ => [(7, .int .i64 (j : Nat))]) (fun ⟨j, c2⟩ => j) (i, cur) ⟨Nat.le_refl _, hi2, rfl⟩ (.cons (by first | rfl | exact lookI rfl (by omega) | exact lookI rfl (by simp) | exact lookB rfl (by simp)) Front.nil) (by repeat' constructor) rfl (fun i hi m hm => ?_)
  obtain ⟨j, c2⟩ := i
  replace hi : j ≤ i ∧ c2.size = d.size ∧ insInner ltW a j c2 = insInner ltW a i cur := hi
  replace hm : m = j := hm
  change Tr _ _ [rowE V 22 encU32 c2.toList] ([(7, .int .i64 (j : Nat))] ++ _) _
  obtain ⟨hj1, hj2, hj3⟩ := hi
  have ej : ((j : Int) - 1).toNat = j - 1 := by omega
  have hc2 : c2.toList.length = d.size := by rw [Array.length_toList]; exact hj2
  refine Tr.seq (Tr.seq ?_)
  refine Tr.regionQ HLF.mixed (by kernel_rfl) ?_
  refine TrQ.q (QS.move rfl) rfl ?_
  refine TrQ.q (QS.move rfl) rfl ?_
  refine TrQ.q (QS.gtr rfl rfl) rfl ?_
  refine TrQ.q (QS.move rfl) rfl ?_
  apply TrQ.andP
  ·exact (rfl : _ = (11, 19, 30))
  ·exact rfl
  ·intro hT2; have hT2' := hT2
   try simp only [bs] at hT2'
   refine TrQ.gq rfl rfl hT2 (QS.move rfl) rfl ?_
   refine TrQ.gq rfl rfl hT2 (QS.move rfl) rfl ?_
   refine TrQ.gq rfl rfl hT2 (QS.idxRowN rfl rfl (by repeat constructor) Try.underlying34 Try.sizeOf22 (by rfl) (by omega)) rfl ?_
   refine TrQ.gq rfl rfl hT2 (QS.elR1 rfl (by repeat constructor) Try.isAgg22 (by omega) (by rfl)) rfl ?_
   refine TrQ.gq rfl rfl hT2 (QS.move rfl) rfl ?_
   refine TrQ.gq rfl rfl hT2 (QS.move rfl) rfl ?_
   refine TrQ.gq rfl rfl hT2 (QS.subI rfl rfl (by omega)) rfl ?_
   refine TrQ.gq rfl rfl hT2 (QS.idxRow rfl rfl (by repeat constructor) Try.underlying34 Try.sizeOf22 (by rfl) (by omega)) rfl ?_
   refine TrQ.gq rfl rfl hT2 (QS.elR1 rfl (by repeat constructor) Try.isAgg22 (by omega) (by rfl)) rfl ?_
   refine TrQ.gq rfl rfl hT2 (QS.call rfl Try.call100 (fun w hw => less_any (c2.toList.getD (j) default) (c2.toList.getD (((j : Int) - 1).toNat) default) w)) rfl ?_
   refine TrQ.q (QS.pickT rfl hT2 rfl) rfl ?_
   exact TrQ.end (Sub.cons rfl (Sub.dropN 11 (by kernel_rfl) rfl))
  ·intro hF2
   refine TrQ.gskip rfl rfl hF2 rfl ?_
   refine TrQ.gskip rfl rfl hF2 rfl ?_
   refine TrQ.gskip rfl rfl hF2 rfl ?_
   refine TrQ.gskip rfl rfl hF2 rfl ?_
   refine TrQ.gskip rfl rfl hF2 rfl ?_
   refine TrQ.gskip rfl rfl hF2 rfl ?_
   refine TrQ.gskip rfl rfl hF2 rfl ?_
   refine TrQ.gskip rfl rfl hF2 rfl ?_
   refine TrQ.gskip rfl rfl hF2 rfl ?_
   refine TrQ.gskip rfl rfl hF2 rfl ?_
   refine TrQ.q (QS.pickF rfl hF2 rfl) rfl ?_
   exact TrQ.end (Sub.cons rfl (Sub.dropN 11 (by kernel_rfl) rfl))
  refine TrQ.nil ?_
  refine Tr.thenN ?_
  refine Tr.cond rfl (fun h3 => ?_) (fun h3 => ?_)
  ·try simp only [bs] at h3
   refine Tr.skip (Tr.thenN (Tr.seq (Tr.block ?_)))
   refine Tr.regionT 5 15 HLF.mixed (by kernel_rfl) (panicIn (panicThen (panicThen (panicIn (panicIn (panicThen (panicThen (panicIn panicBody)))))))) ?_
   refine TrQ.pureMove rfl rfl ?_
   refine TrQ.pureMove rfl rfl ?_
   refine TrQ.pureMove rfl rfl ?_
   refine TrQ.pureMove rfl rfl ?_
   refine TrQ.pureQ (fun _ => QS.subI rfl rfl (by omega)) (by rfl) rfl ?_
   refine TrQ.pureNil ?_
   refine TrQ.q (QS.move rfl) rfl ?_
   refine TrQ.q (QS.move rfl) rfl ?_
   refine TrQ.q (QS.subI rfl rfl (by omega)) rfl ?_
   refine TrQ.q (QS.idxRow rfl rfl (by repeat constructor) Try.underlying34 Try.sizeOf22 (by rfl) (by omega)) rfl ?_
   refine TrQ.q (QS.elR1 rfl (by repeat constructor) Try.isAgg22 (by omega) (by rfl)) rfl ?_
   refine TrQ.q (QS.move rfl) rfl ?_
   refine TrQ.q (QS.move rfl) rfl ?_
   refine TrQ.q (QS.idxRowN rfl rfl (by repeat constructor) Try.underlying34 Try.sizeOf22 (by rfl) (by omega)) rfl ?_
   refine TrQ.q (QS.elR1 rfl (by repeat constructor) Try.isAgg22 (by omega) (by rfl)) rfl ?_
   refine TrQ.q (QS.idxRowN rfl rfl (by repeat constructor) Try.underlying34 Try.sizeOf22 (by rfl) (by omega)) rfl ?_
   refine TrQ.nil ?_
   refine Tr.storeEl (l := c2.toList) (i := j) (c2.toList.getD (((j : Int) - 1).toNat) default) rfl rfl Try.sizeOf22 (by repeat constructor) (by (try simp only [List.length_set]); omega) (by rfl) rfl ?_
   have hls4 : (List.set c2.toList (j) (c2.toList.getD (((j : Int) - 1).toNat) default)).length = (c2.toList).length := List.length_set
   refine Tr.q (QS.idxRow rfl rfl (by repeat constructor) Try.underlying34 Try.sizeOf22 (by rfl) (by omega)) rfl ?_
   refine Tr.storeEl (l := (c2.toList.set (j) (c2.toList.getD (((j : Int) - 1).toNat) default))) (i := ((j : Int) - 1).toNat) (c2.toList.getD (j) default) rfl rfl Try.sizeOf22 (by repeat constructor) (by (try simp only [List.length_set]); omega) (by rfl) rfl ?_
   have hls5 : (List.set (c2.toList.set (j) (c2.toList.getD (((j : Int) - 1).toNat) default)) (((j : Int) - 1).toNat) (c2.toList.getD (j) default)).length = ((c2.toList.set (j) (c2.toList.getD (((j : Int) - 1).toNat) default))).length := List.length_set
   refine Tr.nil (Tr.inN (Tr.thenN (Tr.region ?_)))
   refine Tr.q (QS.move rfl) rfl ?_
   refine Tr.q (QS.subI rfl rfl (by omega)) rfl ?_
   refine Tr.q (QS.assign rfl) rfl ?_
   refine Tr.nil (Tr.thenN ?_)
   rw [ej, bang, bang, set_swp]
   apply Tr.again (j - 1, _)
   ·exact rfl
   ·exact (.cons (by first | rfl | exact lookI rfl (by omega) | exact lookI rfl (by simp) | exact lookB rfl (by simp)) Front.nil)
   ·exact SubX.dropN 25 (by kernel_rfl) rfl
   ·exact (by repeat' constructor)
   ·exact ⟨by omega, by rw [swpW]; exact hj2, by rw [← hj3]; exact (own_insInner_go (d := c2) (a := a) (j := j) (by omega) (by have q := h3.2; rw [bang, bang, ej] at q; exact q)).symm⟩
   ·exact (by (try dsimp only); omega)
  ·try simp only [bs] at h3
   refine Tr.exit ?_
   refine Tr.thenE (Tr.thenE (Tr.inHit (Tr.inN (Tr.thenN (Tr.region ?_)))))
   refine Tr.q (QS.move rfl) rfl ?_
   refine Tr.q (QS.addI rfl rfl (by omega)) rfl ?_
   refine Tr.q (QS.assign rfl) rfl ?_
   refine Tr.nil (Tr.thenN ?_)
   have hst : insInner ltW a j c2 = c2 := own_insInner_stop (by
    rcases h3 with q | q
    ·exact .inl (by omega)
    ·rw [bang, bang, ej] at q; exact .inr q)
   rw [hst] at hj3
   apply Tr.again (i + 1, c2)
   ·exact rfl
   ·exact (.cons (by first | rfl | exact lookI rfl (by omega) | exact lookI rfl (by simp) | exact lookB rfl (by simp)) Front.nil)
   ·exact SubX.dropN 15 (by kernel_rfl) rfl
   ·exact (by repeat' constructor)
   ·exact ⟨by omega, hj2, by rw [hj3, ← insOuter_lt (by omega)]; exact hi3⟩
   ·exact (by (try dsimp only); omega)
 ·try simp only [bs] at h1
  refine Tr.exit ?_
  refine Tr.thenE (Tr.thenE (Tr.inHit ?_))
  refine Tr.ret0n Try.results94 (fun w' hw => ?_)
  rw [insOuter_ge (by omega)] at hi3
  exact ⟨rfl, by rw [← hi3]; exact HpOK.mutOwn hw (.head _) rfl⟩
set_option maxRecDepth 100000 in
set_option maxHeartbeats 4000000 in
theorem sift_u32 (d : Array UInt32) (V : Value) (lo : Nat) (top : Nat) (f : Nat) (loi : Int) (topi : Int) (fi : Int) (elo : loi = ((lo : Nat) : Int)) (etop : topi = ((top : Nat) : Int)) (ef : fi = ((f : Nat) : Int)) (w : World) (hr : (rowE V 22 encU32 d.toList).holds w) (hd : d.size ≤ 1000000) (hlo : lo ≤ 1000000) (hb : f + top ≤ d.size) :
  Calls Try.prog 105 #[V, .int .i64 loi, .int .i64 topi, .int .i64 fi] w (fun e w' => e = .returned (.tuple #[]) ∧ Mut w w' V ∧ (rowE V 22 encU32 (siftDown ltW top f lo d).toList).holds w') := by
 subst elo etop ef
 refine enterOwn (l := d.toList) (E := encU32) (T := 22) hr Try.func105 rfl Try.ntmps105 rfl ?_
 refine Tr.seq (Tr.region ?_)
 refine Tr.q (QS.move rfl) rfl ?_
 refine Tr.q (QS.assign rfl) rfl ?_
 refine Tr.nil (Tr.thenN (Tr.block ?_))
 refine Tr.loop (ι := Nat × Array UInt32) (fun ⟨r, cur⟩ => r ≤ 1000000 ∧ cur.size = d.size ∧ siftDown ltW top f r cur = siftDown ltW top f lo d) (fun _ => _) (fun ⟨r, cur⟩ => [rowE V 22 encU32 cur.toList]) (fun ⟨r, cur⟩ => [(8, .int .i64 (r : Nat))]) (fun ⟨r, cur⟩ => top - r) (lo, d) ⟨hlo, rfl, rfl⟩ (.cons (by first | rfl | exact lookI rfl (by omega) | exact lookI rfl (by simp) | exact lookB rfl (by simp)) Front.nil) (by repeat' constructor) rfl (fun i hi m hm => ?_)
 obtain ⟨r, cur⟩ := i
 replace hi : r ≤ 1000000 ∧ cur.size = d.size ∧ siftDown ltW top f r cur = siftDown ltW top f lo d := hi
 replace hm : m = top - r := hm
 change Tr _ _ [rowE V 22 encU32 cur.toList] ([(8, .int .i64 (r : Nat))] ++ _) _
 obtain ⟨hr1, hr2, hr3⟩ := hi
 have hcl : cur.toList.length = d.size := by rw [Array.length_toList]; exact hr2
 refine Tr.block (Tr.seq (Tr.region ?_))
 refine Tr.q (QS.move rfl) rfl ?_
 refine Tr.q (QS.mulI rfl rfl (by omega)) rfl ?_
 refine Tr.q (QS.addI rfl rfl (by omega)) rfl ?_
 refine Tr.q (QS.assign rfl) rfl ?_
 refine Tr.nil (Tr.thenN (Tr.seq (Tr.seq (Tr.region ?_))))
 refine Tr.q (QS.move rfl) rfl ?_
 refine Tr.q (QS.move rfl) rfl ?_
 refine Tr.q (QS.geq rfl rfl) rfl ?_
 refine Tr.nil (Tr.thenN ?_)
 refine Tr.cond rfl (fun h1 => ?_) (fun h1 => ?_)
 ·try simp only [bs] at h1
  refine Tr.exit ?_
  refine Tr.thenE ?_
  refine Tr.inMiss rfl ?_
  refine Tr.thenE (Tr.inHit ?_)
  refine Tr.ret0n Try.results105 (fun w' hw => ?_)
  rw [sift_end (by omega)] at hr3
  exact ⟨rfl, by rw [← hr3]; exact HpOK.mutOwn hw (.head _) rfl⟩
 ·try simp only [bs] at h1
  refine Tr.skip (Tr.thenN ?_)
  refine Tr.seqJ (ι := Nat) (fun c => (2 * r + 1 ≤ c ∧ c < top) ∧ siftDown ltW top f r cur = if ltW cur[f + r]! cur[f + c]! = true then siftDown ltW top f c (swp cur (f + r) (f + c)) else cur) (fun _ => Bg.less w V) (fun c => [rowE V 22 encU32 cur.toList]) (fun c => [(9, .int .i64 (c : Nat))]) ?_ (fun c hi => ?_)
  ·skip
   refine Tr.seq ?_
   refine Tr.regionQ HLF.mixed (by kernel_rfl) ?_
   refine TrQ.q (QS.move rfl) rfl ?_
   refine TrQ.q (QS.addI rfl rfl (by omega)) rfl ?_
   refine TrQ.q (QS.move rfl) rfl ?_
   refine TrQ.q (QS.lss rfl rfl) rfl ?_
   refine TrQ.q (QS.move rfl) rfl ?_
   apply TrQ.andP
   ·exact (rfl : _ = (15, 21, 36))
   ·exact rfl
   ·intro hT2; have hT2' := hT2
    try simp only [bs] at hT2'
    refine TrQ.gq rfl rfl hT2 (QS.move rfl) rfl ?_
    refine TrQ.gq rfl rfl hT2 (QS.move rfl) rfl ?_
    refine TrQ.gq rfl rfl hT2 (QS.move rfl) rfl ?_
    refine TrQ.gq rfl rfl hT2 (QS.addI rfl rfl (by omega)) rfl ?_
    refine TrQ.gq rfl rfl hT2 (QS.idxRow rfl rfl (by repeat constructor) Try.underlying34 Try.sizeOf22 (by rfl) (by omega)) rfl ?_
    refine TrQ.gq rfl rfl hT2 (QS.elR1 rfl (by repeat constructor) Try.isAgg22 (by omega) (by rfl)) rfl ?_
    refine TrQ.gq rfl rfl hT2 (QS.move rfl) rfl ?_
    refine TrQ.gq rfl rfl hT2 (QS.move rfl) rfl ?_
    refine TrQ.gq rfl rfl hT2 (QS.move rfl) rfl ?_
    refine TrQ.gq rfl rfl hT2 (QS.addI rfl rfl (by omega)) rfl ?_
    refine TrQ.gq rfl rfl hT2 (QS.addI rfl rfl (by omega)) rfl ?_
    refine TrQ.gq rfl rfl hT2 (QS.idxRow rfl rfl (by repeat constructor) Try.underlying34 Try.sizeOf22 (by rfl) (by omega)) rfl ?_
    refine TrQ.gq rfl rfl hT2 (QS.elR1 rfl (by repeat constructor) Try.isAgg22 (by omega) (by rfl)) rfl ?_
    refine TrQ.gq rfl rfl hT2 (QS.call rfl Try.call100 (fun w hw => less_any (cur.toList.getD (f + (2 * r + 1)) default) (cur.toList.getD (f + (2 * r + 1) + 1) default) w)) rfl ?_
    refine TrQ.q (QS.pickT rfl hT2 rfl) rfl ?_
    exact TrQ.end (Sub.cons rfl (Sub.dropN 15 (by kernel_rfl) rfl))
   ·intro hF2
    refine TrQ.gskip rfl rfl hF2 rfl ?_
    refine TrQ.gskip rfl rfl hF2 rfl ?_
    refine TrQ.gskip rfl rfl hF2 rfl ?_
    refine TrQ.gskip rfl rfl hF2 rfl ?_
    refine TrQ.gskip rfl rfl hF2 rfl ?_
    refine TrQ.gskip rfl rfl hF2 rfl ?_
    refine TrQ.gskip rfl rfl hF2 rfl ?_
    refine TrQ.gskip rfl rfl hF2 rfl ?_
    refine TrQ.gskip rfl rfl hF2 rfl ?_
    refine TrQ.gskip rfl rfl hF2 rfl ?_
    refine TrQ.gskip rfl rfl hF2 rfl ?_
    refine TrQ.gskip rfl rfl hF2 rfl ?_
    refine TrQ.gskip rfl rfl hF2 rfl ?_
    refine TrQ.gskip rfl rfl hF2 rfl ?_
    refine TrQ.q (QS.pickF rfl hF2 rfl) rfl ?_
    exact TrQ.end (Sub.cons rfl (Sub.dropN 15 (by kernel_rfl) rfl))
   refine TrQ.nil ?_
   refine Tr.thenN ?_
   refine Tr.cond rfl (fun h3 => ?_) (fun h3 => ?_)
   ·try simp only [bs] at h3
    refine Tr.region ?_
    refine Tr.q (QS.move rfl) rfl ?_
    refine Tr.q (QS.addI rfl rfl (by omega)) rfl ?_
    refine Tr.q (QS.assign rfl) rfl ?_
    refine Tr.nil (Tr.thenN ?_)
    apply Tr.joined (2 * r + 2)
    ·exact rfl
    ·exact (.cons (by first | rfl | exact lookI rfl (by omega) | exact lookI rfl (by simp) | exact lookB rfl (by simp)) Front.nil)
    ·exact SubX.dropN 9 (by kernel_rfl) rfl
    ·exact (by repeat' constructor)
    ·exact ⟨by omega, sift_r (by omega) (by rw [← bang, ← bang]; exact h3.2)⟩
   ·try simp only [bs] at h3
    refine Tr.skip (Tr.thenN ?_)
    apply Tr.joined (2 * r + 1)
    ·exact rfl
    ·exact (.cons (by first | rfl | exact lookI rfl (by omega) | exact lookI rfl (by simp) | exact lookB rfl (by simp)) Front.nil)
    ·exact SubX.dropN 6 (by kernel_rfl) rfl
    ·exact (by repeat' constructor)
    ·exact ⟨by omega, sift_l (by omega) (by
      rcases h3 with q | q
      ·exact .inl (by omega)
      ·exact .inr (by rw [← bang, ← bang]; exact q))⟩
  ·skip
   replace hi : (2 * r + 1 ≤ c ∧ c < top) ∧ siftDown ltW top f r cur = if ltW cur[f + r]! cur[f + c]! = true then siftDown ltW top f c (swp cur (f + r) (f + c)) else cur := hi
   change Tr _ _ [rowE V 22 encU32 cur.toList] ([(9, .int .i64 (c : Nat))] ++ _) _
   obtain ⟨hc1, hc2⟩ := hi
   refine Tr.seq (Tr.seq ?_)
   refine Tr.regionQ HLF.mixed (by kernel_rfl) ?_
   refine TrQ.q (QS.move rfl) rfl ?_
   refine TrQ.q (QS.move rfl) rfl ?_
   refine TrQ.q (QS.move rfl) rfl ?_
   refine TrQ.q (QS.addI rfl rfl (by omega)) rfl ?_
   refine TrQ.q (QS.idxRowN rfl rfl (by repeat constructor) Try.underlying34 Try.sizeOf22 (by rfl) (by omega)) rfl ?_
   refine TrQ.q (QS.elR1 rfl (by repeat constructor) Try.isAgg22 (by omega) (by rfl)) rfl ?_
   refine TrQ.q (QS.move rfl) rfl ?_
   refine TrQ.q (QS.move rfl) rfl ?_
   refine TrQ.q (QS.move rfl) rfl ?_
   refine TrQ.q (QS.addI rfl rfl (by omega)) rfl ?_
   refine TrQ.q (QS.idxRowN rfl rfl (by repeat constructor) Try.underlying34 Try.sizeOf22 (by rfl) (by omega)) rfl ?_
   refine TrQ.q (QS.elR1 rfl (by repeat constructor) Try.isAgg22 (by omega) (by rfl)) rfl ?_
   refine TrQ.q (QS.call rfl Try.call100 (fun w hw => less_any (cur.toList.getD (f + r) default) (cur.toList.getD (f + c) default) w)) rfl ?_
   refine TrQ.q (QS.not rfl) rfl ?_
   refine TrQ.nil ?_
   refine Tr.thenN ?_
   refine Tr.cond rfl (fun h4 => ?_) (fun h4 => ?_)
   ·try simp only [bs] at h4
    refine Tr.ret (Tr.thenR ?_)
    refine Tr.inR ?_
    refine Tr.thenR ?_
    refine Tr.inR ?_
    refine Tr.ret0 Try.results105 (fun w' hw => ?_)
    rw [if_neg (by rw [← bang, ← bang]; simp_all)] at hc2
    exact ⟨rfl, by rw [← hr3, hc2]; exact HpOK.mutOwn hw (.head _) rfl⟩
   ·try simp only [bs] at h4
    refine Tr.skip (Tr.thenN (Tr.seq ?_))
    refine Tr.regionT 8 21 HLF.mixed (by kernel_rfl) (panicThen (panicIn (panicThen (panicIn panicBody)))) ?_
    refine TrQ.pureMove rfl rfl ?_
    refine TrQ.pureMove rfl rfl ?_
    refine TrQ.pureMove rfl rfl ?_
    refine TrQ.pureQ (fun _ => QS.addI rfl rfl (by omega)) (by rfl) rfl ?_
    refine TrQ.pureMove rfl rfl ?_
    refine TrQ.pureMove rfl rfl ?_
    refine TrQ.pureMove rfl rfl ?_
    refine TrQ.pureQ (fun _ => QS.addI rfl rfl (by omega)) (by rfl) rfl ?_
    refine TrQ.pureNil ?_
    refine TrQ.q (QS.move rfl) rfl ?_
    refine TrQ.q (QS.move rfl) rfl ?_
    refine TrQ.q (QS.move rfl) rfl ?_
    refine TrQ.q (QS.addI rfl rfl (by omega)) rfl ?_
    refine TrQ.q (QS.idxRowN rfl rfl (by repeat constructor) Try.underlying34 Try.sizeOf22 (by rfl) (by omega)) rfl ?_
    refine TrQ.q (QS.elR1 rfl (by repeat constructor) Try.isAgg22 (by omega) (by rfl)) rfl ?_
    refine TrQ.q (QS.move rfl) rfl ?_
    refine TrQ.q (QS.move rfl) rfl ?_
    refine TrQ.q (QS.move rfl) rfl ?_
    refine TrQ.q (QS.addI rfl rfl (by omega)) rfl ?_
    refine TrQ.q (QS.idxRowN rfl rfl (by repeat constructor) Try.underlying34 Try.sizeOf22 (by rfl) (by omega)) rfl ?_
    refine TrQ.q (QS.elR1 rfl (by repeat constructor) Try.isAgg22 (by omega) (by rfl)) rfl ?_
    refine TrQ.q (QS.idxRowN rfl rfl (by repeat constructor) Try.underlying34 Try.sizeOf22 (by rfl) (by omega)) rfl ?_
    refine TrQ.nil ?_
    refine Tr.storeEl (l := cur.toList) (i := f + r) (cur.toList.getD (f + c) default) rfl rfl Try.sizeOf22 (by repeat constructor) (by (try simp only [List.length_set]); omega) (by rfl) rfl ?_
    have hls5 : (List.set cur.toList (f + r) (cur.toList.getD (f + c) default)).length = (cur.toList).length := List.length_set
    refine Tr.q (QS.idxRowN rfl rfl (by repeat constructor) Try.underlying34 Try.sizeOf22 (by rfl) (by omega)) rfl ?_
    refine Tr.storeEl (l := (cur.toList.set (f + r) (cur.toList.getD (f + c) default))) (i := f + c) (cur.toList.getD (f + r) default) rfl rfl Try.sizeOf22 (by repeat constructor) (by (try simp only [List.length_set]); omega) (by rfl) rfl ?_
    have hls6 : (List.set (cur.toList.set (f + r) (cur.toList.getD (f + c) default)) (f + c) (cur.toList.getD (f + r) default)).length = ((cur.toList.set (f + r) (cur.toList.getD (f + c) default))).length := List.length_set
    refine Tr.nil (Tr.thenN (Tr.region ?_))
    refine Tr.q (QS.move rfl) rfl ?_
    refine Tr.q (QS.assign rfl) rfl ?_
    refine Tr.nil (Tr.inN (Tr.thenN ?_))
    rw [bang, bang, set_swp]
    have hst := hc2
    rw [if_pos (by rw [← bang, ← bang]; simp_all)] at hst
    apply Tr.again (c, _)
    ·exact rfl
    ·exact (.cons (by first | rfl | exact lookI rfl (by omega) | exact lookI rfl (by simp) | exact lookB rfl (by simp)) Front.nil)
    ·exact SubX.dropN 47 (by kernel_rfl) rfl
    ·exact (by repeat' constructor)
    ·exact ⟨by omega, by rw [swpW]; exact hr2, by rw [← hr3]; exact hst.symm⟩
    ·exact (by (try dsimp only); omega)
set_option maxRecDepth 100000 in
set_option maxHeartbeats 4000000 in
theorem heap_u32 (d : Array UInt32) (V : Value) (a : Nat) (b : Nat) (ai : Int) (bi : Int) (ea : ai = ((a : Nat) : Int)) (eb : bi = ((b : Nat) : Int)) (w : World) (hr : (rowE V 22 encU32 d.toList).holds w) (hd : d.size ≤ 1000000) (hab : a < b) (hb : b ≤ d.size) :
  Calls Try.prog 95 #[V, .int .i64 ai, .int .i64 bi] w (fun e w' => e = .returned (.tuple #[]) ∧ Mut w w' V ∧ (rowE V 22 encU32 (heapSort ltW d a b).toList).holds w') := by
 subst ea eb
 obtain ⟨n, hn⟩ : ∃ n, n = b - a := ⟨_, rfl⟩
 obtain ⟨d0, hd0⟩ : ∃ x, x = heapBuild ltW n a ((n - 1) / 2 + 1) d := ⟨_, rfl⟩
 have hhs : heapSort ltW d a b = heapPop ltW a n d0 := by rw [hd0, hn]; rfl
 refine enterOwn (l := d.toList) (E := encU32) (T := 22) hr Try.func95 rfl Try.ntmps95 rfl ?_
 refine Tr.seq (Tr.region ?_)
 refine Tr.q (QS.move rfl) rfl ?_
 refine Tr.q (QS.assign rfl) rfl ?_
 refine Tr.nil (Tr.thenN (Tr.seq (Tr.region ?_)))
 refine Tr.q (QS.assign rfl) rfl ?_
 refine Tr.nil (Tr.thenN (Tr.seq (Tr.region ?_)))
 refine Tr.q (QS.move rfl) rfl ?_
 refine Tr.q (QS.move rfl) rfl ?_
 refine Tr.q (QS.subI rfl rfl (by omega)) rfl ?_
 refine Tr.q (QS.assign rfl) rfl ?_
 refine Tr.nil (Tr.thenN (Tr.seq (Tr.seq ?_)))
 rw [show ((b : Nat) : Int) - ((a : Nat) : Int) = ((n : Nat) : Int) by omega]
 refine Tr.region ?_
 refine Tr.q (QS.move rfl) rfl ?_
 refine Tr.q (QS.subI rfl rfl (by omega)) rfl ?_
 refine Tr.q (QS.quoI rfl rfl (by omega)) rfl ?_
 refine Tr.q (QS.assign rfl) rfl ?_
 refine Tr.nil (Tr.thenN (Tr.block ?_))
 refine Tr.loop (ι := Nat × Array UInt32) (fun ⟨k, cur⟩ => k ≤ (n - 1) / 2 + 1 ∧ cur.size = d.size ∧ heapBuild ltW n a k cur = d0) (fun _ => _) (fun ⟨k, cur⟩ => [rowE V 22 encU32 cur.toList]) (fun ⟨k, cur⟩ => [(9, .int .i64 ((k : Int) - 1))]) (fun ⟨k, cur⟩ => k) ((n - 1) / 2 + 1, d) ⟨Nat.le_refl _, rfl, hd0.symm⟩ (.cons (by first | rfl | exact lookI rfl (by omega) | exact lookI rfl (by simp) | exact lookB rfl (by simp)) Front.nil) (by repeat' constructor) rfl (fun i hi m hm => ?_)
 obtain ⟨k, cur⟩ := i
 replace hi : k ≤ (n - 1) / 2 + 1 ∧ cur.size = d.size ∧ heapBuild ltW n a k cur = d0 := hi
 replace hm : m = k := hm
 change Tr _ _ [rowE V 22 encU32 cur.toList] ([(9, .int .i64 ((k : Int) - 1))] ++ _) _
 obtain ⟨hk1, hk2, hk3⟩ := hi
 have hcl : cur.toList.length = d.size := by rw [Array.length_toList]; exact hk2
 refine Tr.seq (Tr.seq (Tr.region ?_))
 refine Tr.q (QS.move rfl) rfl ?_
 refine Tr.q (QS.geq rfl rfl) rfl ?_
 refine Tr.nil (Tr.thenN ?_)
 refine Tr.cond rfl (fun h1 => ?_) (fun h1 => ?_)
 ·try simp only [bs] at h1
  refine Tr.skip (Tr.thenN (Tr.seq (Tr.block (Tr.region ?_))))
  refine Tr.q (QS.move rfl) rfl ?_
  refine Tr.q (QS.move rfl) rfl ?_
  refine Tr.q (QS.move rfl) rfl ?_
  refine Tr.q (QS.move rfl) rfl ?_
  refine Tr.callMut rfl Try.call105 (by repeat constructor) (fun w hw => sift_u32 cur V (k - 1) n a _ _ _ (by omega) (by omega) (by omega) w (hw.ent _ (.head _)) (by omega) (by omega) (by omega)) rfl ?_
  refine Tr.nil (Tr.inN (Tr.thenN (Tr.region ?_)))
  refine Tr.q (QS.move rfl) rfl ?_
  refine Tr.q (QS.subI rfl rfl (by omega)) rfl ?_
  refine Tr.q (QS.assign rfl) rfl ?_
  refine Tr.nil (Tr.thenN ?_)
  have hst : heapBuild ltW n a (k - 1) (siftDown ltW n a (k - 1) cur) = d0 := by
   obtain ⟨q, rfl⟩ : ∃ q, k = q + 1 := ⟨k - 1, by omega⟩
   exact hk3
  apply Tr.again (k - 1, _)
  ·exact rfl
  ·exact (.cons (by first | rfl | exact lookI rfl (by omega) | exact lookI rfl (by simp) | exact lookB rfl (by simp)) Front.nil)
  ·exact SubX.dropN 11 (by kernel_rfl) rfl
  ·exact (by repeat' constructor)
  ·exact ⟨by omega, by rw [siftW]; exact hk2, hst⟩
  ·exact (by (try dsimp only); omega)
 ·try simp only [bs] at h1
  refine Tr.exit ?_
  refine Tr.thenE (Tr.thenE (Tr.inHit (Tr.thenN (Tr.seq ?_))))
  obtain rfl : k = 0 := by omega
  have hd1 : cur = d0 := hk3
  subst hd1
  refine Tr.region ?_
  refine Tr.q (QS.move rfl) rfl ?_
  refine Tr.q (QS.subI rfl rfl (by omega)) rfl ?_
  refine Tr.q (QS.assign rfl) rfl ?_
  refine Tr.nil (Tr.thenN (Tr.block ?_))
  refine Tr.loop (ι := Nat × Array UInt32) (fun ⟨k, cur⟩ => k ≤ n ∧ cur.size = d.size ∧ heapPop ltW a k cur = heapSort ltW d a b) (fun _ => _) (fun ⟨k, cur⟩ => [rowE V 22 encU32 cur.toList]) (fun ⟨k, cur⟩ => [(10, .int .i64 ((k : Int) - 1))]) (fun ⟨k, cur⟩ => k) (n, _) ⟨Nat.le_refl _, hk2, hhs.symm⟩ (.cons (by first | rfl | exact lookI rfl (by omega) | exact lookI rfl (by simp) | exact lookB rfl (by simp)) Front.nil) (by repeat' constructor) rfl (fun i hi m hm => ?_)
  obtain ⟨k, cur⟩ := i
  replace hi : k ≤ n ∧ cur.size = d.size ∧ heapPop ltW a k cur = heapSort ltW d a b := hi
  replace hm : m = k := hm
  change Tr _ _ [rowE V 22 encU32 cur.toList] ([(10, .int .i64 ((k : Int) - 1))] ++ _) _
  obtain ⟨hk1, hk2, hk3⟩ := hi
  have hcl : cur.toList.length = d.size := by rw [Array.length_toList]; exact hk2
  have ek : ((a : Int) + ((k : Int) - 1)).toNat = a + (k - 1) ∨ k = 0 := by omega
  refine Tr.seq (Tr.seq (Tr.region ?_))
  refine Tr.q (QS.move rfl) rfl ?_
  refine Tr.q (QS.geq rfl rfl) rfl ?_
  refine Tr.nil (Tr.thenN ?_)
  refine Tr.cond rfl (fun h2 => ?_) (fun h2 => ?_)
  ·try simp only [bs] at h2
   refine Tr.skip (Tr.thenN (Tr.seq (Tr.block (Tr.seq ?_))))
   refine Tr.regionT 6 17 HLF.mixed (by kernel_rfl) (panicThen (panicIn (panicThen (panicThen (panicIn panicBody))))) ?_
   refine TrQ.pureMove rfl rfl ?_
   refine TrQ.pureMove rfl rfl ?_
   refine TrQ.pureMove rfl rfl ?_
   refine TrQ.pureMove rfl rfl ?_
   refine TrQ.pureMove rfl rfl ?_
   refine TrQ.pureQ (fun _ => QS.addI rfl rfl (by omega)) (by rfl) rfl ?_
   refine TrQ.pureNil ?_
   refine TrQ.q (QS.move rfl) rfl ?_
   refine TrQ.q (QS.move rfl) rfl ?_
   refine TrQ.q (QS.move rfl) rfl ?_
   refine TrQ.q (QS.addI rfl rfl (by omega)) rfl ?_
   refine TrQ.q (QS.idxRow rfl rfl (by repeat constructor) Try.underlying34 Try.sizeOf22 (by rfl) (by omega)) rfl ?_
   refine TrQ.q (QS.elR1 rfl (by repeat constructor) Try.isAgg22 (by omega) (by rfl)) rfl ?_
   refine TrQ.q (QS.move rfl) rfl ?_
   refine TrQ.q (QS.move rfl) rfl ?_
   refine TrQ.q (QS.idxRowN rfl rfl (by repeat constructor) Try.underlying34 Try.sizeOf22 (by rfl) (by omega)) rfl ?_
   refine TrQ.q (QS.elR1 rfl (by repeat constructor) Try.isAgg22 (by omega) (by rfl)) rfl ?_
   refine TrQ.q (QS.idxRowN rfl rfl (by repeat constructor) Try.underlying34 Try.sizeOf22 (by rfl) (by omega)) rfl ?_
   refine TrQ.nil ?_
   refine Tr.storeEl (l := cur.toList) (i := a) (cur.toList.getD (((a : Int) + ((k : Int) - 1)).toNat) default) rfl rfl Try.sizeOf22 (by repeat constructor) (by (try simp only [List.length_set]); omega) (by rfl) rfl ?_
   have hls3 : (List.set cur.toList (a) (cur.toList.getD (((a : Int) + ((k : Int) - 1)).toNat) default)).length = (cur.toList).length := List.length_set
   refine Tr.q (QS.idxRow rfl rfl (by repeat constructor) Try.underlying34 Try.sizeOf22 (by rfl) (by omega)) rfl ?_
   refine Tr.storeEl (l := (cur.toList.set (a) (cur.toList.getD (((a : Int) + ((k : Int) - 1)).toNat) default))) (i := ((a : Int) + ((k : Int) - 1)).toNat) (cur.toList.getD (a) default) rfl rfl Try.sizeOf22 (by repeat constructor) (by (try simp only [List.length_set]); omega) (by rfl) rfl ?_
   have hls4 : (List.set (cur.toList.set (a) (cur.toList.getD (((a : Int) + ((k : Int) - 1)).toNat) default)) (((a : Int) + ((k : Int) - 1)).toNat) (cur.toList.getD (a) default)).length = ((cur.toList.set (a) (cur.toList.getD (((a : Int) + ((k : Int) - 1)).toNat) default))).length := List.length_set
   rw [ek.resolve_right (by omega), bang, bang, set_swp]
   refine Tr.nil (Tr.thenN (Tr.region ?_))
   refine Tr.q (QS.move rfl) rfl ?_
   refine Tr.q (QS.move rfl) rfl ?_
   refine Tr.q (QS.move rfl) rfl ?_
   refine Tr.q (QS.move rfl) rfl ?_
   refine Tr.callMut rfl Try.call105 (by repeat constructor) (fun w hw => sift_u32 (swp cur a (a + (k - 1))) V 0 (k - 1) a _ _ _ (by omega) (by omega) (by omega) w (hw.ent _ (.head _)) (by rw [swpW]; omega) (by omega) (by rw [swpW]; omega)) rfl ?_
   refine Tr.nil (Tr.inN (Tr.thenN (Tr.region ?_)))
   refine Tr.q (QS.move rfl) rfl ?_
   refine Tr.q (QS.subI rfl rfl (by omega)) rfl ?_
   refine Tr.q (QS.assign rfl) rfl ?_
   refine Tr.nil (Tr.thenN ?_)
   have hst : heapPop ltW a (k - 1) (siftDown ltW (k - 1) a 0 (swp cur a (a + (k - 1)))) = heapSort ltW d a b := by
    obtain ⟨q, rfl⟩ : ∃ q, k = q + 1 := ⟨k - 1, by omega⟩
    exact hk3
   apply Tr.again (k - 1, _)
   ·exact rfl
   ·exact (.cons (by first | rfl | exact lookI rfl (by omega) | exact lookI rfl (by simp) | exact lookB rfl (by simp)) Front.nil)
   ·exact SubX.dropN 29 (by kernel_rfl) rfl
   ·exact (by repeat' constructor)
   ·exact ⟨by omega, by rw [siftW, swpW]; exact hk2, hst⟩
   ·exact (by (try dsimp only); omega)
  ·try simp only [bs] at h2
   refine Tr.exit ?_
   refine Tr.thenE (Tr.thenE (Tr.inHit ?_))
   refine Tr.ret0n Try.results95 (fun w' hw => ?_)
   obtain rfl : k = 0 := by omega
   exact ⟨rfl, by rw [← hk3]; exact HpOK.mutOwn hw (.head _) rfl⟩
set_option maxRecDepth 100000 in
set_option maxHeartbeats 2000000 in
theorem reverse_u32 (d : Array UInt32) (V : Value) (a : Nat) (b : Nat) (ai : Int) (bi : Int) (ea : ai = ((a : Nat) : Int)) (eb : bi = ((b : Nat) : Int)) (w : World) (hr : (rowE V 22 encU32 d.toList).holds w) (hd : d.size ≤ 1000000) (hab : a < b) (hb : b ≤ d.size) :
  Calls Try.prog 98 #[V, .int .i64 ai, .int .i64 bi] w (fun e w' => e = .returned (.tuple #[]) ∧ Mut w w' V ∧ (rowE V 22 encU32 (reverseRange d a b).toList).holds w') := by
 subst ea eb
 refine enterOwn (l := d.toList) (E := encU32) (T := 22) hr Try.func98 rfl Try.ntmps98 rfl ?_
 refine Tr.seq (Tr.region ?_)
 refine Tr.q (QS.move rfl) rfl ?_
 refine Tr.q (QS.assign rfl) rfl ?_
 refine Tr.nil (Tr.thenN (Tr.seq (Tr.region ?_)))
 refine Tr.q (QS.move rfl) rfl ?_
 refine Tr.q (QS.subI rfl rfl (by omega)) rfl ?_
 refine Tr.q (QS.assign rfl) rfl ?_
 refine Tr.nil (Tr.thenN (Tr.block ?_))
 refine Tr.loop (ι := Nat × Nat × Array UInt32) (fun ⟨i, j, cur⟩ => (a ≤ i ∧ j < b) ∧ cur.size = d.size ∧ reverseLoop i j cur = reverseRange d a b) (fun _ => _) (fun ⟨i, j, cur⟩ => [rowE V 22 encU32 cur.toList]) (fun ⟨i, j, cur⟩ => [(6, .int .i64 (i : Nat)), (7, .int .i64 (j : Nat))]) (fun ⟨i, j, cur⟩ => j - i) (a, b - 1, d) ⟨⟨Nat.le_refl _, by omega⟩, rfl, rfl⟩ (.cons (by first | rfl | exact lookI rfl (by omega) | exact lookI rfl (by simp) | exact lookB rfl (by simp)) (.cons (by first | rfl | exact lookI rfl (by omega) | exact lookI rfl (by simp) | exact lookB rfl (by simp)) Front.nil)) (by repeat' constructor) rfl (fun i hi m hm => ?_)
 obtain ⟨i, j, cur⟩ := i
 replace hi : (a ≤ i ∧ j < b) ∧ cur.size = d.size ∧ reverseLoop i j cur = reverseRange d a b := hi
 replace hm : m = j - i := hm
 change Tr _ _ [rowE V 22 encU32 cur.toList] ([(6, .int .i64 (i : Nat)), (7, .int .i64 (j : Nat))] ++ _) _
 obtain ⟨hi1, hi2, hi3⟩ := hi
 have hcl : cur.toList.length = d.size := by rw [Array.length_toList]; exact hi2
 refine Tr.seq (Tr.seq (Tr.region ?_))
 refine Tr.q (QS.move rfl) rfl ?_
 refine Tr.q (QS.move rfl) rfl ?_
 refine Tr.q (QS.lss rfl rfl) rfl ?_
 refine Tr.nil (Tr.thenN ?_)
 refine Tr.cond rfl (fun h1 => ?_) (fun h1 => ?_)
 ·try simp only [bs] at h1
  refine Tr.skip (Tr.thenN (Tr.block (Tr.seq ?_)))
  refine Tr.regionT 4 13 HLF.mixed (by kernel_rfl) (panicThen (panicIn (panicThen (panicIn panicBody)))) ?_
  refine TrQ.pureMove rfl rfl ?_
  refine TrQ.pureMove rfl rfl ?_
  refine TrQ.pureMove rfl rfl ?_
  refine TrQ.pureMove rfl rfl ?_
  refine TrQ.pureNil ?_
  refine TrQ.q (QS.move rfl) rfl ?_
  refine TrQ.q (QS.move rfl) rfl ?_
  refine TrQ.q (QS.idxRowN rfl rfl (by repeat constructor) Try.underlying34 Try.sizeOf22 (by rfl) (by omega)) rfl ?_
  refine TrQ.q (QS.elR1 rfl (by repeat constructor) Try.isAgg22 (by omega) (by rfl)) rfl ?_
  refine TrQ.q (QS.move rfl) rfl ?_
  refine TrQ.q (QS.move rfl) rfl ?_
  refine TrQ.q (QS.idxRowN rfl rfl (by repeat constructor) Try.underlying34 Try.sizeOf22 (by rfl) (by omega)) rfl ?_
  refine TrQ.q (QS.elR1 rfl (by repeat constructor) Try.isAgg22 (by omega) (by rfl)) rfl ?_
  refine TrQ.q (QS.idxRowN rfl rfl (by repeat constructor) Try.underlying34 Try.sizeOf22 (by rfl) (by omega)) rfl ?_
  refine TrQ.nil ?_
  refine Tr.storeEl (l := cur.toList) (i := i) (cur.toList.getD (j) default) rfl rfl Try.sizeOf22 (by repeat constructor) (by (try simp only [List.length_set]); omega) (by rfl) rfl ?_
  have hls2 : (List.set cur.toList (i) (cur.toList.getD (j) default)).length = (cur.toList).length := List.length_set
  refine Tr.q (QS.idxRowN rfl rfl (by repeat constructor) Try.underlying34 Try.sizeOf22 (by rfl) (by omega)) rfl ?_
  refine Tr.storeEl (l := (cur.toList.set (i) (cur.toList.getD (j) default))) (i := j) (cur.toList.getD (i) default) rfl rfl Try.sizeOf22 (by repeat constructor) (by (try simp only [List.length_set]); omega) (by rfl) rfl ?_
  have hls3 : (List.set (cur.toList.set (i) (cur.toList.getD (j) default)) (j) (cur.toList.getD (i) default)).length = ((cur.toList.set (i) (cur.toList.getD (j) default))).length := List.length_set
  refine Tr.nil (Tr.thenN (Tr.seq (Tr.region ?_)))
  refine Tr.q (QS.move rfl) rfl ?_
  refine Tr.q (QS.addI rfl rfl (by omega)) rfl ?_
  refine Tr.q (QS.assign rfl) rfl ?_
  refine Tr.nil (Tr.thenN (Tr.region ?_))
  refine Tr.q (QS.move rfl) rfl ?_
  refine Tr.q (QS.subI rfl rfl (by omega)) rfl ?_
  refine Tr.q (QS.assign rfl) rfl ?_
  refine Tr.nil (Tr.inN (Tr.thenN ?_))
  rw [bang, bang, set_swp]
  apply Tr.again (i + 1, j - 1, _)
  ·exact rfl
  ·exact (.cons (by first | rfl | exact lookI rfl (by omega) | exact lookI rfl (by simp) | exact lookB rfl (by simp)) (.cons (by first | rfl | exact lookI rfl (by omega) | exact lookI rfl (by simp) | exact lookB rfl (by simp)) Front.nil))
  ·exact SubX.dropN 25 (by kernel_rfl) rfl
  ·exact (by repeat' constructor)
  ·exact ⟨⟨by omega, by omega⟩, by rw [swpW]; exact hi2, by rw [← rev_go (by omega)]; exact hi3⟩
  ·exact (by (try dsimp only); omega)
 ·try simp only [bs] at h1
  refine Tr.exit ?_
  refine Tr.thenE (Tr.thenE (Tr.inHit ?_))
  refine Tr.ret0n Try.results98 (fun w' hw => ?_)
  rw [rev_stop (by omega)] at hi3
  exact ⟨rfl, by rw [← hi3]; exact HpOK.mutOwn hw (.head _) rfl⟩
set_option maxRecDepth 100000 in
set_option maxHeartbeats 8000000 in
theorem partition_u32 (d : Array UInt32) (V : Value) (a : Nat) (b : Nat) (p : Nat) (ai : Int) (bi : Int) (pi : Int) (ea : ai = ((a : Nat) : Int)) (eb : bi = ((b : Nat) : Int)) (ep : pi = ((p : Nat) : Int)) (w : World) (hr : (rowE V 22 encU32 d.toList).holds w) (hd : d.size ≤ 1000000) (hab : a + 1 < b) (hb : b ≤ d.size) (hp : p < b) :
  Calls Try.prog 102 #[V, .int .i64 ai, .int .i64 bi, .int .i64 pi] w (fun e w' => e = .returned (.tuple #[.int .i64 ((partition ltW d a b p).1 : Nat), .bool (partition ltW d a b p).2.1]) ∧ Mut w w' V ∧ (rowE V 22 encU32 (partition ltW d a b p).2.2.toList).holds w') := by
 subst ea eb ep
 obtain ⟨d1, hd1⟩ : ∃ x, x = swp d a p := ⟨_, rfl⟩
 have hs1 : d1.size = d.size := by rw [hd1, swpW]
 have hl0 : d.toList.length = d.size := Array.length_toList
 have hl1 : d1.toList.length = d.size := by rw [Array.length_toList]; exact hs1
 obtain ⟨P, hP⟩ : ∃ P : UInt32 → Bool, P = fun x => ltW x d1[a]! := ⟨_, rfl⟩
 refine enterOwn (l := d.toList) (E := encU32) (T := 22) hr Try.func102 rfl Try.ntmps102 rfl ?_
 refine Tr.seq (Tr.region ?_)
 refine Tr.q (QS.assign rfl) rfl ?_
 refine Tr.q (QS.assign rfl) rfl ?_
 refine Tr.nil (Tr.thenN (Tr.seq ?_))
 refine Tr.regionT 4 13 HLF.mixed (by kernel_rfl) (panicThen panicBody) ?_
 refine TrQ.pureMove rfl rfl ?_
 refine TrQ.pureMove rfl rfl ?_
 refine TrQ.pureMove rfl rfl ?_
 refine TrQ.pureMove rfl rfl ?_
 refine TrQ.pureNil ?_
 refine TrQ.q (QS.move rfl) rfl ?_
 refine TrQ.q (QS.move rfl) rfl ?_
 refine TrQ.q (QS.idxRowN rfl rfl (by repeat constructor) Try.underlying34 Try.sizeOf22 (by rfl) (by omega)) rfl ?_
 refine TrQ.q (QS.elR1 rfl (by repeat constructor) Try.isAgg22 (by omega) (by rfl)) rfl ?_
 refine TrQ.q (QS.move rfl) rfl ?_
 refine TrQ.q (QS.move rfl) rfl ?_
 refine TrQ.q (QS.idxRowN rfl rfl (by repeat constructor) Try.underlying34 Try.sizeOf22 (by rfl) (by omega)) rfl ?_
 refine TrQ.q (QS.elR1 rfl (by repeat constructor) Try.isAgg22 (by omega) (by rfl)) rfl ?_
 refine TrQ.q (QS.idxRowN rfl rfl (by repeat constructor) Try.underlying34 Try.sizeOf22 (by rfl) (by omega)) rfl ?_
 refine TrQ.nil ?_
 refine Tr.storeEl (l := d.toList) (i := a) (d.toList.getD (p) default) rfl rfl Try.sizeOf22 (by repeat constructor) (by (try simp only [List.length_set]); omega) (by rfl) rfl ?_
 have hls1 : (List.set d.toList (a) (d.toList.getD (p) default)).length = (d.toList).length := List.length_set
 refine Tr.q (QS.idxRowN rfl rfl (by repeat constructor) Try.underlying34 Try.sizeOf22 (by rfl) (by omega)) rfl ?_
 refine Tr.storeEl (l := (d.toList.set (a) (d.toList.getD (p) default))) (i := p) (d.toList.getD (a) default) rfl rfl Try.sizeOf22 (by repeat constructor) (by (try simp only [List.length_set]); omega) (by rfl) rfl ?_
 have hls2 : (List.set (d.toList.set (a) (d.toList.getD (p) default)) (p) (d.toList.getD (a) default)).length = ((d.toList.set (a) (d.toList.getD (p) default))).length := List.length_set
 rw [bang, bang, set_swp, ← hd1]
 refine Tr.nil (Tr.thenN (Tr.seq (Tr.region ?_)))
 refine Tr.q (QS.move rfl) rfl ?_
 refine Tr.q (QS.addI rfl rfl (by omega)) rfl ?_
 refine Tr.q (QS.move rfl) rfl ?_
 refine Tr.q (QS.subI rfl rfl (by omega)) rfl ?_
 refine Tr.q (QS.assign rfl) rfl ?_
 refine Tr.q (QS.assign rfl) rfl ?_
 refine Tr.nil (Tr.thenN (Tr.seq (Tr.block ?_)))
 refine Tr.loop (ι := Nat) (fun i => a + 1 ≤ i ∧ i ≤ b ∧ scanUp (fun x => ltW x d1[a]!) d1 (b - 1) i = scanUp (fun x => ltW x d1[a]!) d1 (b - 1) (a + 1)) (fun _ => _) (fun i => [rowE V 22 encU32 d1.toList]) (fun i => [(10, .int .i64 (i : Nat)), (11, .int .i64 ((b : Int) - 1))]) (fun i => b - i) (a + 1) ⟨Nat.le_refl _, by omega, rfl⟩ (.cons (by first | rfl | exact lookI rfl (by omega) | exact lookI rfl (by simp) | exact lookB rfl (by simp)) (.cons (by first | rfl | exact lookI rfl (by omega) | exact lookI rfl (by simp) | exact lookB rfl (by simp)) Front.nil)) (by repeat' constructor) rfl (fun i hi m hm => ?_)
 replace hi : a + 1 ≤ i ∧ i ≤ b ∧ scanUp (fun x => ltW x d1[a]!) d1 (b - 1) i = scanUp (fun x => ltW x d1[a]!) d1 (b - 1) (a + 1) := hi
 replace hm : m = b - i := hm
 change Tr _ _ [rowE V 22 encU32 d1.toList] ([(10, .int .i64 (i : Nat)), (11, .int .i64 ((b : Int) - 1))] ++ _) _
 obtain ⟨hi1, hi2, hi3⟩ := hi
 refine Tr.seq (Tr.seq ?_)
 refine Tr.regionQ HLF.mixed (by kernel_rfl) ?_
 refine TrQ.q (QS.move rfl) rfl ?_
 refine TrQ.q (QS.move rfl) rfl ?_
 refine TrQ.q (QS.leq rfl rfl) rfl ?_
 refine TrQ.q (QS.move rfl) rfl ?_
 apply TrQ.andP
 ·exact (rfl : _ = (10, 33, 43))
 ·exact rfl
 ·intro hT3; have hT3' := hT3
  try simp only [bs] at hT3'
  refine TrQ.gq rfl rfl hT3 (QS.move rfl) rfl ?_
  refine TrQ.gq rfl rfl hT3 (QS.move rfl) rfl ?_
  refine TrQ.gq rfl rfl hT3 (QS.idxRowN rfl rfl (by repeat constructor) Try.underlying34 Try.sizeOf22 (by rfl) (by omega)) rfl ?_
  refine TrQ.gq rfl rfl hT3 (QS.elR1 rfl (by repeat constructor) Try.isAgg22 (by omega) (by rfl)) rfl ?_
  refine TrQ.gq rfl rfl hT3 (QS.move rfl) rfl ?_
  refine TrQ.gq rfl rfl hT3 (QS.move rfl) rfl ?_
  refine TrQ.gq rfl rfl hT3 (QS.idxRowN rfl rfl (by repeat constructor) Try.underlying34 Try.sizeOf22 (by rfl) (by omega)) rfl ?_
  refine TrQ.gq rfl rfl hT3 (QS.elR1 rfl (by repeat constructor) Try.isAgg22 (by omega) (by rfl)) rfl ?_
  refine TrQ.gq rfl rfl hT3 (QS.call rfl Try.call100 (fun w hw => less_any (d1.toList.getD (i) default) (d1.toList.getD (a) default) w)) rfl ?_
  refine TrQ.q (QS.pickT rfl hT3 rfl) rfl ?_
  exact TrQ.end (Sub.cons rfl (Sub.dropN 10 (by kernel_rfl) rfl))
 ·intro hF3
  refine TrQ.gskip rfl rfl hF3 rfl ?_
  refine TrQ.gskip rfl rfl hF3 rfl ?_
  refine TrQ.gskip rfl rfl hF3 rfl ?_
  refine TrQ.gskip rfl rfl hF3 rfl ?_
  refine TrQ.gskip rfl rfl hF3 rfl ?_
  refine TrQ.gskip rfl rfl hF3 rfl ?_
  refine TrQ.gskip rfl rfl hF3 rfl ?_
  refine TrQ.gskip rfl rfl hF3 rfl ?_
  refine TrQ.gskip rfl rfl hF3 rfl ?_
  refine TrQ.q (QS.pickF rfl hF3 rfl) rfl ?_
  exact TrQ.end (Sub.cons rfl (Sub.dropN 10 (by kernel_rfl) rfl))
 refine TrQ.nil ?_
 refine Tr.thenN ?_
 refine Tr.cond rfl (fun h4 => ?_) (fun h4 => ?_)
 ·try simp only [bs] at h4
  refine Tr.skip (Tr.thenN (Tr.block (Tr.region ?_)))
  refine Tr.q (QS.move rfl) rfl ?_
  refine Tr.q (QS.addI rfl rfl (by omega)) rfl ?_
  refine Tr.q (QS.assign rfl) rfl ?_
  refine Tr.nil (Tr.inN (Tr.thenN ?_))
  apply Tr.again (i + 1)
  ·exact rfl
  ·exact (.cons (by first | rfl | exact lookI rfl (by omega) | exact lookI rfl (by simp) | exact lookB rfl (by simp)) (.cons (by first | rfl | exact lookI rfl (by omega) | exact lookI rfl (by simp) | exact lookB rfl (by simp)) Front.nil))
  ·exact SubX.dropN 10 (by kernel_rfl) rfl
  ·exact (by repeat' constructor)
  ·exact ⟨by omega, by omega, by rw [← hi3]; exact (up_go (by omega) (by rw [← bang, ← bang]; exact h4.2)).symm⟩
  ·exact (by (try dsimp only); omega)
 ·try simp only [bs] at h4
  refine Tr.exit ?_
  refine Tr.thenE (Tr.thenE (Tr.inHit (Tr.thenN (Tr.seq (Tr.block ?_)))))
  refine Tr.loop (ι := Nat) (fun j => j < b ∧ i ≤ j + 1 ∧ scanDown (fun x => !ltW x d1[a]!) d1 i j = scanDown (fun x => !ltW x d1[a]!) d1 i (b - 1)) (fun _ => _) (fun j => [rowE V 22 encU32 d1.toList]) (fun j => [(10, .int .i64 (i : Nat)), (11, .int .i64 (j : Nat))]) (fun j => j) (b - 1) ⟨by omega, by omega, rfl⟩ (.cons (by first | rfl | exact lookI rfl (by omega) | exact lookI rfl (by simp) | exact lookB rfl (by simp)) (.cons (by first | rfl | exact lookI rfl (by omega) | exact lookI rfl (by simp) | exact lookB rfl (by simp)) Front.nil)) (by repeat' constructor) rfl (fun j hi m hm => ?_)
  replace hi : j < b ∧ i ≤ j + 1 ∧ scanDown (fun x => !ltW x d1[a]!) d1 i j = scanDown (fun x => !ltW x d1[a]!) d1 i (b - 1) := hi
  replace hm : m = j := hm
  change Tr _ _ [rowE V 22 encU32 d1.toList] ([(10, .int .i64 (i : Nat)), (11, .int .i64 (j : Nat))] ++ _) _
  obtain ⟨hj1, hj2, hj3⟩ := hi
  refine Tr.seq (Tr.seq ?_)
  refine Tr.regionQ HLF.mixed (by kernel_rfl) ?_
  refine TrQ.q (QS.move rfl) rfl ?_
  refine TrQ.q (QS.move rfl) rfl ?_
  refine TrQ.q (QS.leq rfl rfl) rfl ?_
  refine TrQ.q (QS.move rfl) rfl ?_
  apply TrQ.andP
  ·exact (rfl : _ = (11, 49, 60))
  ·exact rfl
  ·intro hT5; have hT5' := hT5
   try simp only [bs] at hT5'
   refine TrQ.gq rfl rfl hT5 (QS.move rfl) rfl ?_
   refine TrQ.gq rfl rfl hT5 (QS.move rfl) rfl ?_
   refine TrQ.gq rfl rfl hT5 (QS.idxRowN rfl rfl (by repeat constructor) Try.underlying34 Try.sizeOf22 (by rfl) (by omega)) rfl ?_
   refine TrQ.gq rfl rfl hT5 (QS.elR1 rfl (by repeat constructor) Try.isAgg22 (by omega) (by rfl)) rfl ?_
   refine TrQ.gq rfl rfl hT5 (QS.move rfl) rfl ?_
   refine TrQ.gq rfl rfl hT5 (QS.move rfl) rfl ?_
   refine TrQ.gq rfl rfl hT5 (QS.idxRowN rfl rfl (by repeat constructor) Try.underlying34 Try.sizeOf22 (by rfl) (by omega)) rfl ?_
   refine TrQ.gq rfl rfl hT5 (QS.elR1 rfl (by repeat constructor) Try.isAgg22 (by omega) (by rfl)) rfl ?_
   refine TrQ.gq rfl rfl hT5 (QS.call rfl Try.call100 (fun w hw => less_any (d1.toList.getD (j) default) (d1.toList.getD (a) default) w)) rfl ?_
   refine TrQ.gq rfl rfl hT5 (QS.not rfl) rfl ?_
   refine TrQ.q (QS.pickT rfl hT5 rfl) rfl ?_
   exact TrQ.end (Sub.cons rfl (Sub.dropN 11 (by kernel_rfl) rfl))
  ·intro hF5
   refine TrQ.gskip rfl rfl hF5 rfl ?_
   refine TrQ.gskip rfl rfl hF5 rfl ?_
   refine TrQ.gskip rfl rfl hF5 rfl ?_
   refine TrQ.gskip rfl rfl hF5 rfl ?_
   refine TrQ.gskip rfl rfl hF5 rfl ?_
   refine TrQ.gskip rfl rfl hF5 rfl ?_
   refine TrQ.gskip rfl rfl hF5 rfl ?_
   refine TrQ.gskip rfl rfl hF5 rfl ?_
   refine TrQ.gskip rfl rfl hF5 rfl ?_
   refine TrQ.gskip rfl rfl hF5 rfl ?_
   refine TrQ.q (QS.pickF rfl hF5 rfl) rfl ?_
   exact TrQ.end (Sub.cons rfl (Sub.dropN 11 (by kernel_rfl) rfl))
  refine TrQ.nil ?_
  refine Tr.thenN ?_
  refine Tr.cond rfl (fun h6 => ?_) (fun h6 => ?_)
  ·try simp only [bs] at h6
   refine Tr.skip (Tr.thenN (Tr.block (Tr.region ?_)))
   refine Tr.q (QS.move rfl) rfl ?_
   refine Tr.q (QS.subI rfl rfl (by omega)) rfl ?_
   refine Tr.q (QS.assign rfl) rfl ?_
   refine Tr.nil (Tr.inN (Tr.thenN ?_))
   apply Tr.again (j - 1)
   ·exact rfl
   ·exact (.cons (by first | rfl | exact lookI rfl (by omega) | exact lookI rfl (by simp) | exact lookB rfl (by simp)) (.cons (by first | rfl | exact lookI rfl (by omega) | exact lookI rfl (by simp) | exact lookB rfl (by simp)) Front.nil))
   ·exact SubX.dropN 10 (by kernel_rfl) rfl
   ·exact (by repeat' constructor)
   ·exact ⟨by omega, by omega, by rw [← hj3]; exact (down_go (by omega) (by omega) (by rw [← bang, ← bang]; simp_all)).symm⟩
   ·exact (by (try dsimp only); omega)
  ·try simp only [bs] at h6
   refine Tr.exit ?_
   refine Tr.thenE (Tr.thenE (Tr.inHit (Tr.thenN (Tr.seq (Tr.seq ?_)))))
   have hI : scanUp (fun x => ltW x d1[a]!) d1 (b - 1) (a + 1) = i := by
    rw [← hi3]; exact up_stop (by
     rcases h4 with q | q
     ·exact .inl (by omega)
     ·exact .inr (by rw [← bang, ← bang]; exact q))
   have hJ : scanDown (fun x => !ltW x d1[a]!) d1 i (b - 1) = j := by
    rw [← hj3]; exact down_stop (by
     rcases h6 with q | q
     ·exact .inl (by omega)
     ·exact .inr (by rw [← bang, ← bang, q]; rfl))
   refine Tr.region ?_
   refine Tr.q (QS.move rfl) rfl ?_
   refine Tr.q (QS.move rfl) rfl ?_
   refine Tr.q (QS.gtr rfl rfl) rfl ?_
   refine Tr.nil (Tr.thenN ?_)
   refine Tr.cond rfl (fun h7 => ?_) (fun h7 => ?_)
   ·try simp only [bs] at h7
    refine Tr.seq ?_
    refine Tr.regionT 4 13 HLF.mixed (by kernel_rfl) (panicThen (panicThen panicBody)) ?_
    refine TrQ.pureMove rfl rfl ?_
    refine TrQ.pureMove rfl rfl ?_
    refine TrQ.pureMove rfl rfl ?_
    refine TrQ.pureMove rfl rfl ?_
    refine TrQ.pureNil ?_
    refine TrQ.q (QS.move rfl) rfl ?_
    refine TrQ.q (QS.move rfl) rfl ?_
    refine TrQ.q (QS.idxRowN rfl rfl (by repeat constructor) Try.underlying34 Try.sizeOf22 (by rfl) (by omega)) rfl ?_
    refine TrQ.q (QS.elR1 rfl (by repeat constructor) Try.isAgg22 (by omega) (by rfl)) rfl ?_
    refine TrQ.q (QS.move rfl) rfl ?_
    refine TrQ.q (QS.move rfl) rfl ?_
    refine TrQ.q (QS.idxRowN rfl rfl (by repeat constructor) Try.underlying34 Try.sizeOf22 (by rfl) (by omega)) rfl ?_
    refine TrQ.q (QS.elR1 rfl (by repeat constructor) Try.isAgg22 (by omega) (by rfl)) rfl ?_
    refine TrQ.q (QS.idxRowN rfl rfl (by repeat constructor) Try.underlying34 Try.sizeOf22 (by rfl) (by omega)) rfl ?_
    refine TrQ.nil ?_
    refine Tr.storeEl (l := d1.toList) (i := j) (d1.toList.getD (a) default) rfl rfl Try.sizeOf22 (by repeat constructor) (by (try simp only [List.length_set]); omega) (by rfl) rfl ?_
    have hls8 : (List.set d1.toList (j) (d1.toList.getD (a) default)).length = (d1.toList).length := List.length_set
    refine Tr.q (QS.idxRowN rfl rfl (by repeat constructor) Try.underlying34 Try.sizeOf22 (by rfl) (by omega)) rfl ?_
    refine Tr.storeEl (l := (d1.toList.set (j) (d1.toList.getD (a) default))) (i := a) (d1.toList.getD (j) default) rfl rfl Try.sizeOf22 (by repeat constructor) (by (try simp only [List.length_set]); omega) (by rfl) rfl ?_
    have hls9 : (List.set (d1.toList.set (j) (d1.toList.getD (a) default)) (a) (d1.toList.getD (j) default)).length = ((d1.toList.set (j) (d1.toList.getD (a) default))).length := List.length_set
    rw [bang, bang, set_swp]
    refine Tr.nil (Tr.thenN (Tr.seq (Tr.region ?_)))
    refine Tr.q (QS.move rfl) rfl ?_
    refine Tr.q (QS.assign rfl) rfl ?_
    refine Tr.q (QS.assign rfl) rfl ?_
    refine Tr.nil (Tr.thenN (Tr.ret (Tr.thenR ?_)))
    refine Tr.ret2 Try.results102 rfl rfl (fun w' hw => ?_)
    have hpt : partition ltW d a b p = (j, true, swp d1 j a) := by
     unfold partition; simp only [← hd1, hI, hJ]; rw [if_pos (by omega)]
    exact ⟨by rw [hpt], by rw [hpt]; exact HpOK.mutOwn hw (.head _) rfl⟩
   ·try simp only [bs] at h7
    refine Tr.skip (Tr.thenN (Tr.seq ?_))
    have hij : i < j := by
     rcases Nat.lt_or_ge i j with q | q
     ·exact q
     ·exfalso
      have e : i = j := by omega
      rcases h4 with g1 | g1
      ·omega
      ·rcases h6 with g2 | g2
       ·omega
       ·rw [e, g2] at g1; cases g1
    refine Tr.regionT 4 13 HLF.mixed (by kernel_rfl) (panicThen panicBody) ?_
    refine TrQ.pureMove rfl rfl ?_
    refine TrQ.pureMove rfl rfl ?_
    refine TrQ.pureMove rfl rfl ?_
    refine TrQ.pureMove rfl rfl ?_
    refine TrQ.pureNil ?_
    refine TrQ.q (QS.move rfl) rfl ?_
    refine TrQ.q (QS.move rfl) rfl ?_
    refine TrQ.q (QS.idxRowN rfl rfl (by repeat constructor) Try.underlying34 Try.sizeOf22 (by rfl) (by omega)) rfl ?_
    refine TrQ.q (QS.elR1 rfl (by repeat constructor) Try.isAgg22 (by omega) (by rfl)) rfl ?_
    refine TrQ.q (QS.move rfl) rfl ?_
    refine TrQ.q (QS.move rfl) rfl ?_
    refine TrQ.q (QS.idxRowN rfl rfl (by repeat constructor) Try.underlying34 Try.sizeOf22 (by rfl) (by omega)) rfl ?_
    refine TrQ.q (QS.elR1 rfl (by repeat constructor) Try.isAgg22 (by omega) (by rfl)) rfl ?_
    refine TrQ.q (QS.idxRowN rfl rfl (by repeat constructor) Try.underlying34 Try.sizeOf22 (by rfl) (by omega)) rfl ?_
    refine TrQ.nil ?_
    refine Tr.storeEl (l := d1.toList) (i := i) (d1.toList.getD (j) default) rfl rfl Try.sizeOf22 (by repeat constructor) (by (try simp only [List.length_set]); omega) (by rfl) rfl ?_
    have hls10 : (List.set d1.toList (i) (d1.toList.getD (j) default)).length = (d1.toList).length := List.length_set
    refine Tr.q (QS.idxRowN rfl rfl (by repeat constructor) Try.underlying34 Try.sizeOf22 (by rfl) (by omega)) rfl ?_
    refine Tr.storeEl (l := (d1.toList.set (i) (d1.toList.getD (j) default))) (i := j) (d1.toList.getD (i) default) rfl rfl Try.sizeOf22 (by repeat constructor) (by (try simp only [List.length_set]); omega) (by rfl) rfl ?_
    have hls11 : (List.set (d1.toList.set (i) (d1.toList.getD (j) default)) (j) (d1.toList.getD (i) default)).length = ((d1.toList.set (i) (d1.toList.getD (j) default))).length := List.length_set
    rw [bang, bang, set_swp]
    refine Tr.nil (Tr.thenN (Tr.seq (Tr.region ?_)))
    refine Tr.q (QS.move rfl) rfl ?_
    refine Tr.q (QS.addI rfl rfl (by omega)) rfl ?_
    refine Tr.q (QS.assign rfl) rfl ?_
    refine Tr.nil (Tr.thenN (Tr.seq (Tr.region ?_)))
    refine Tr.q (QS.move rfl) rfl ?_
    refine Tr.q (QS.subI rfl rfl (by omega)) rfl ?_
    refine Tr.q (QS.assign rfl) rfl ?_
    refine Tr.nil (Tr.thenN (Tr.seq (Tr.block ?_)))
    refine Tr.loop (ι := Nat × Nat × Array UInt32) (fun ⟨i3, j3, cur⟩ => (a + 1 ≤ i3 ∧ i3 ≤ j3 + 1 ∧ j3 < b) ∧ cur.size = d.size ∧ partLoop ltW a i3 j3 cur = partLoop ltW a (i + 1) (j - 1) (swp d1 i j)) (fun _ => _) (fun ⟨i3, j3, cur⟩ => [rowE V 22 encU32 cur.toList]) (fun ⟨i3, j3, cur⟩ => [(10, .int .i64 (i3 : Nat)), (11, .int .i64 (j3 : Nat))]) (fun ⟨i3, j3, cur⟩ => j3 + 1 - i3) (i + 1, j - 1, swp d1 i j) ⟨by omega, by rw [swpW]; exact hs1, rfl⟩ (.cons (by first | rfl | exact lookI rfl (by omega) | exact lookI rfl (by simp) | exact lookB rfl (by simp)) (.cons (by first | rfl | exact lookI rfl (by omega) | exact lookI rfl (by simp) | exact lookB rfl (by simp)) Front.nil)) (by repeat' constructor) rfl (fun i hi m hm => ?_)
    obtain ⟨i3, j3, cur⟩ := i
    replace hi : (a + 1 ≤ i3 ∧ i3 ≤ j3 + 1 ∧ j3 < b) ∧ cur.size = d.size ∧ partLoop ltW a i3 j3 cur = partLoop ltW a (i + 1) (j - 1) (swp d1 i j) := hi
    replace hm : m = j3 + 1 - i3 := hm
    change Tr _ _ [rowE V 22 encU32 cur.toList] ([(10, .int .i64 (i3 : Nat)), (11, .int .i64 (j3 : Nat))] ++ _) _
    obtain ⟨hk1, hk2, hk3⟩ := hi
    have hcl : cur.toList.length = d.size := by rw [Array.length_toList]; exact hk2
    refine Tr.block (Tr.seq (Tr.block ?_))
    refine Tr.loop (ι := Nat) (fun x => i3 ≤ x ∧ x ≤ j3 + 1 ∧ scanUp (fun z => ltW z cur[a]!) cur j3 x = scanUp (fun z => ltW z cur[a]!) cur j3 i3) (fun _ => _) (fun x => [rowE V 22 encU32 cur.toList]) (fun x => [(10, .int .i64 (x : Nat)), (11, .int .i64 (j3 : Nat))]) (fun x => j3 + 1 - x) i3 ⟨Nat.le_refl _, by omega, rfl⟩ (.cons (by first | rfl | exact lookI rfl (by omega) | exact lookI rfl (by simp) | exact lookB rfl (by simp)) (.cons (by first | rfl | exact lookI rfl (by omega) | exact lookI rfl (by simp) | exact lookB rfl (by simp)) Front.nil)) (by repeat' constructor) rfl (fun x hi m hm => ?_)
    replace hi : i3 ≤ x ∧ x ≤ j3 + 1 ∧ scanUp (fun z => ltW z cur[a]!) cur j3 x = scanUp (fun z => ltW z cur[a]!) cur j3 i3 := hi
    replace hm : m = j3 + 1 - x := hm
    change Tr _ _ [rowE V 22 encU32 cur.toList] ([(10, .int .i64 (x : Nat)), (11, .int .i64 (j3 : Nat))] ++ _) _
    obtain ⟨hx1, hx2, hx3⟩ := hi
    refine Tr.seq (Tr.seq ?_)
    refine Tr.regionQ HLF.mixed (by kernel_rfl) ?_
    refine TrQ.q (QS.move rfl) rfl ?_
    refine TrQ.q (QS.move rfl) rfl ?_
    refine TrQ.q (QS.leq rfl rfl) rfl ?_
    refine TrQ.q (QS.move rfl) rfl ?_
    apply TrQ.andP
    ·exact (rfl : _ = (10, 102, 112))
    ·exact rfl
    ·intro hT12; have hT12' := hT12
     try simp only [bs] at hT12'
     refine TrQ.gq rfl rfl hT12 (QS.move rfl) rfl ?_
     refine TrQ.gq rfl rfl hT12 (QS.move rfl) rfl ?_
     refine TrQ.gq rfl rfl hT12 (QS.idxRowN rfl rfl (by repeat constructor) Try.underlying34 Try.sizeOf22 (by rfl) (by omega)) rfl ?_
     refine TrQ.gq rfl rfl hT12 (QS.elR1 rfl (by repeat constructor) Try.isAgg22 (by omega) (by rfl)) rfl ?_
     refine TrQ.gq rfl rfl hT12 (QS.move rfl) rfl ?_
     refine TrQ.gq rfl rfl hT12 (QS.move rfl) rfl ?_
     refine TrQ.gq rfl rfl hT12 (QS.idxRowN rfl rfl (by repeat constructor) Try.underlying34 Try.sizeOf22 (by rfl) (by omega)) rfl ?_
     refine TrQ.gq rfl rfl hT12 (QS.elR1 rfl (by repeat constructor) Try.isAgg22 (by omega) (by rfl)) rfl ?_
     refine TrQ.gq rfl rfl hT12 (QS.call rfl Try.call100 (fun w hw => less_any (cur.toList.getD (x) default) (cur.toList.getD (a) default) w)) rfl ?_
     refine TrQ.q (QS.pickT rfl hT12 rfl) rfl ?_
     exact TrQ.end (Sub.cons rfl (Sub.dropN 10 (by kernel_rfl) rfl))
    ·intro hF12
     refine TrQ.gskip rfl rfl hF12 rfl ?_
     refine TrQ.gskip rfl rfl hF12 rfl ?_
     refine TrQ.gskip rfl rfl hF12 rfl ?_
     refine TrQ.gskip rfl rfl hF12 rfl ?_
     refine TrQ.gskip rfl rfl hF12 rfl ?_
     refine TrQ.gskip rfl rfl hF12 rfl ?_
     refine TrQ.gskip rfl rfl hF12 rfl ?_
     refine TrQ.gskip rfl rfl hF12 rfl ?_
     refine TrQ.gskip rfl rfl hF12 rfl ?_
     refine TrQ.q (QS.pickF rfl hF12 rfl) rfl ?_
     exact TrQ.end (Sub.cons rfl (Sub.dropN 10 (by kernel_rfl) rfl))
    refine TrQ.nil ?_
    refine Tr.thenN ?_
    refine Tr.cond rfl (fun h13 => ?_) (fun h13 => ?_)
    ·try simp only [bs] at h13
     refine Tr.skip (Tr.thenN (Tr.block (Tr.region ?_)))
     refine Tr.q (QS.move rfl) rfl ?_
     refine Tr.q (QS.addI rfl rfl (by omega)) rfl ?_
     refine Tr.q (QS.assign rfl) rfl ?_
     refine Tr.nil (Tr.inN (Tr.thenN ?_))
     apply Tr.again (x + 1)
     ·exact rfl
     ·exact (.cons (by first | rfl | exact lookI rfl (by omega) | exact lookI rfl (by simp) | exact lookB rfl (by simp)) (.cons (by first | rfl | exact lookI rfl (by omega) | exact lookI rfl (by simp) | exact lookB rfl (by simp)) Front.nil))
     ·exact SubX.dropN 10 (by kernel_rfl) rfl
     ·exact (by repeat' constructor)
     ·exact ⟨by omega, by omega, by rw [← hx3]; exact (up_go (by omega) (by rw [← bang, ← bang]; simp_all)).symm⟩
     ·exact (by (try dsimp only); omega)
    ·try simp only [bs] at h13
     refine Tr.exit ?_
     refine Tr.thenE (Tr.thenE (Tr.inHit (Tr.thenN (Tr.seq (Tr.block ?_)))))
     refine Tr.loop (ι := Nat) (fun y => y ≤ j3 ∧ x ≤ y + 1 ∧ scanDown (fun z => !ltW z cur[a]!) cur x y = scanDown (fun z => !ltW z cur[a]!) cur x j3) (fun _ => _) (fun y => [rowE V 22 encU32 cur.toList]) (fun y => [(10, .int .i64 (x : Nat)), (11, .int .i64 (y : Nat))]) (fun y => y) j3 ⟨Nat.le_refl _, by omega, rfl⟩ (.cons (by first | rfl | exact lookI rfl (by omega) | exact lookI rfl (by simp) | exact lookB rfl (by simp)) (.cons (by first | rfl | exact lookI rfl (by omega) | exact lookI rfl (by simp) | exact lookB rfl (by simp)) Front.nil)) (by repeat' constructor) rfl (fun y hi m hm => ?_)
     replace hi : y ≤ j3 ∧ x ≤ y + 1 ∧ scanDown (fun z => !ltW z cur[a]!) cur x y = scanDown (fun z => !ltW z cur[a]!) cur x j3 := hi
     replace hm : m = y := hm
     change Tr _ _ [rowE V 22 encU32 cur.toList] ([(10, .int .i64 (x : Nat)), (11, .int .i64 (y : Nat))] ++ _) _
     obtain ⟨hy1, hy2, hy3⟩ := hi
     refine Tr.seq (Tr.seq ?_)
     refine Tr.regionQ HLF.mixed (by kernel_rfl) ?_
     refine TrQ.q (QS.move rfl) rfl ?_
     refine TrQ.q (QS.move rfl) rfl ?_
     refine TrQ.q (QS.leq rfl rfl) rfl ?_
     refine TrQ.q (QS.move rfl) rfl ?_
     apply TrQ.andP
     ·exact (rfl : _ = (11, 118, 129))
     ·exact rfl
     ·intro hT14; have hT14' := hT14
      try simp only [bs] at hT14'
      refine TrQ.gq rfl rfl hT14 (QS.move rfl) rfl ?_
      refine TrQ.gq rfl rfl hT14 (QS.move rfl) rfl ?_
      refine TrQ.gq rfl rfl hT14 (QS.idxRowN rfl rfl (by repeat constructor) Try.underlying34 Try.sizeOf22 (by rfl) (by omega)) rfl ?_
      refine TrQ.gq rfl rfl hT14 (QS.elR1 rfl (by repeat constructor) Try.isAgg22 (by omega) (by rfl)) rfl ?_
      refine TrQ.gq rfl rfl hT14 (QS.move rfl) rfl ?_
      refine TrQ.gq rfl rfl hT14 (QS.move rfl) rfl ?_
      refine TrQ.gq rfl rfl hT14 (QS.idxRowN rfl rfl (by repeat constructor) Try.underlying34 Try.sizeOf22 (by rfl) (by omega)) rfl ?_
      refine TrQ.gq rfl rfl hT14 (QS.elR1 rfl (by repeat constructor) Try.isAgg22 (by omega) (by rfl)) rfl ?_
      refine TrQ.gq rfl rfl hT14 (QS.call rfl Try.call100 (fun w hw => less_any (cur.toList.getD (y) default) (cur.toList.getD (a) default) w)) rfl ?_
      refine TrQ.gq rfl rfl hT14 (QS.not rfl) rfl ?_
      refine TrQ.q (QS.pickT rfl hT14 rfl) rfl ?_
      exact TrQ.end (Sub.cons rfl (Sub.dropN 11 (by kernel_rfl) rfl))
     ·intro hF14
      refine TrQ.gskip rfl rfl hF14 rfl ?_
      refine TrQ.gskip rfl rfl hF14 rfl ?_
      refine TrQ.gskip rfl rfl hF14 rfl ?_
      refine TrQ.gskip rfl rfl hF14 rfl ?_
      refine TrQ.gskip rfl rfl hF14 rfl ?_
      refine TrQ.gskip rfl rfl hF14 rfl ?_
      refine TrQ.gskip rfl rfl hF14 rfl ?_
      refine TrQ.gskip rfl rfl hF14 rfl ?_
      refine TrQ.gskip rfl rfl hF14 rfl ?_
      refine TrQ.gskip rfl rfl hF14 rfl ?_
      refine TrQ.q (QS.pickF rfl hF14 rfl) rfl ?_
      exact TrQ.end (Sub.cons rfl (Sub.dropN 11 (by kernel_rfl) rfl))
     refine TrQ.nil ?_
     refine Tr.thenN ?_
     refine Tr.cond rfl (fun h15 => ?_) (fun h15 => ?_)
     ·try simp only [bs] at h15
      refine Tr.skip (Tr.thenN (Tr.block (Tr.region ?_)))
      refine Tr.q (QS.move rfl) rfl ?_
      refine Tr.q (QS.subI rfl rfl (by omega)) rfl ?_
      refine Tr.q (QS.assign rfl) rfl ?_
      refine Tr.nil (Tr.inN (Tr.thenN ?_))
      apply Tr.again (y - 1)
      ·exact rfl
      ·exact (.cons (by first | rfl | exact lookI rfl (by omega) | exact lookI rfl (by simp) | exact lookB rfl (by simp)) (.cons (by first | rfl | exact lookI rfl (by omega) | exact lookI rfl (by simp) | exact lookB rfl (by simp)) Front.nil))
      ·exact SubX.dropN 10 (by kernel_rfl) rfl
      ·exact (by repeat' constructor)
      ·exact ⟨by omega, by omega, by rw [← hy3]; exact (down_go (by omega) (by omega) (by rw [← bang, ← bang]; simp_all)).symm⟩
      ·exact (by (try dsimp only); omega)
     ·try simp only [bs] at h15
      refine Tr.exit ?_
      refine Tr.thenE (Tr.thenE (Tr.inHit (Tr.thenN (Tr.seq (Tr.seq ?_)))))
      have hX : scanUp (fun z => ltW z cur[a]!) cur j3 i3 = x := by
       rw [← hx3]; exact up_stop (by
        rcases h13 with q | q
        ·exact .inl (by omega)
        ·exact .inr (by rw [← bang, ← bang]; exact q))
      have hY : scanDown (fun z => !ltW z cur[a]!) cur x j3 = y := by
       rw [← hy3]; exact down_stop (by
        rcases h15 with q | q
        ·exact .inl (by omega)
        ·exact .inr (by rw [← bang, ← bang, q]; rfl))
      refine Tr.region ?_
      refine Tr.q (QS.move rfl) rfl ?_
      refine Tr.q (QS.move rfl) rfl ?_
      refine Tr.q (QS.gtr rfl rfl) rfl ?_
      refine Tr.nil (Tr.thenN ?_)
      refine Tr.cond rfl (fun h16 => ?_) (fun h16 => ?_)
      ·try simp only [bs] at h16
       refine Tr.exit ?_
       refine Tr.thenE ?_
       refine Tr.inMiss rfl ?_
       refine Tr.thenE (Tr.inHit (Tr.thenN (Tr.seq ?_)))
       refine Tr.regionT 4 13 HLF.mixed (by kernel_rfl) (panicThen panicBody) ?_
       refine TrQ.pureMove rfl rfl ?_
       refine TrQ.pureMove rfl rfl ?_
       refine TrQ.pureMove rfl rfl ?_
       refine TrQ.pureMove rfl rfl ?_
       refine TrQ.pureNil ?_
       refine TrQ.q (QS.move rfl) rfl ?_
       refine TrQ.q (QS.move rfl) rfl ?_
       refine TrQ.q (QS.idxRowN rfl rfl (by repeat constructor) Try.underlying34 Try.sizeOf22 (by rfl) (by omega)) rfl ?_
       refine TrQ.q (QS.elR1 rfl (by repeat constructor) Try.isAgg22 (by omega) (by rfl)) rfl ?_
       refine TrQ.q (QS.move rfl) rfl ?_
       refine TrQ.q (QS.move rfl) rfl ?_
       refine TrQ.q (QS.idxRowN rfl rfl (by repeat constructor) Try.underlying34 Try.sizeOf22 (by rfl) (by omega)) rfl ?_
       refine TrQ.q (QS.elR1 rfl (by repeat constructor) Try.isAgg22 (by omega) (by rfl)) rfl ?_
       refine TrQ.q (QS.idxRowN rfl rfl (by repeat constructor) Try.underlying34 Try.sizeOf22 (by rfl) (by omega)) rfl ?_
       refine TrQ.nil ?_
       refine Tr.storeEl (l := cur.toList) (i := y) (cur.toList.getD (a) default) rfl rfl Try.sizeOf22 (by repeat constructor) (by (try simp only [List.length_set]); omega) (by rfl) rfl ?_
       have hls17 : (List.set cur.toList (y) (cur.toList.getD (a) default)).length = (cur.toList).length := List.length_set
       refine Tr.q (QS.idxRowN rfl rfl (by repeat constructor) Try.underlying34 Try.sizeOf22 (by rfl) (by omega)) rfl ?_
       refine Tr.storeEl (l := (cur.toList.set (y) (cur.toList.getD (a) default))) (i := a) (cur.toList.getD (y) default) rfl rfl Try.sizeOf22 (by repeat constructor) (by (try simp only [List.length_set]); omega) (by rfl) rfl ?_
       have hls18 : (List.set (cur.toList.set (y) (cur.toList.getD (a) default)) (a) (cur.toList.getD (y) default)).length = ((cur.toList.set (y) (cur.toList.getD (a) default))).length := List.length_set
       rw [bang, bang, set_swp]
       refine Tr.nil (Tr.thenN (Tr.seq (Tr.region ?_)))
       refine Tr.q (QS.move rfl) rfl ?_
       refine Tr.q (QS.assign rfl) rfl ?_
       refine Tr.q (QS.assign rfl) rfl ?_
       refine Tr.nil (Tr.thenN (Tr.ret ?_))
       refine Tr.ret2 Try.results102 rfl rfl (fun w' hw => ?_)
       have he := part_end hX hY (by omega)
       have hpt : partition ltW d a b p = (y, false, swp cur y a) := by
        unfold partition; simp only [← hd1, hI, hJ]; rw [if_neg (by omega), ← hk3, he]
       exact ⟨by rw [hpt], by rw [hpt]; exact HpOK.mutOwn hw (.head _) rfl⟩
      ·try simp only [bs] at h16
       refine Tr.skip (Tr.thenN (Tr.seq ?_))
       have hxy : x < y := by
        rcases Nat.lt_or_ge x y with q | q
        ·exact q
        ·exfalso
         have e : x = y := by omega
         rcases h13 with g1 | g1
         ·omega
         ·rcases h15 with g2 | g2
          ·omega
          ·rw [e, g2] at g1; cases g1
       refine Tr.regionT 4 13 HLF.mixed (by kernel_rfl) (panicThen (panicIn (panicThen (panicIn (panicThen panicBody))))) ?_
       refine TrQ.pureMove rfl rfl ?_
       refine TrQ.pureMove rfl rfl ?_
       refine TrQ.pureMove rfl rfl ?_
       refine TrQ.pureMove rfl rfl ?_
       refine TrQ.pureNil ?_
       refine TrQ.q (QS.move rfl) rfl ?_
       refine TrQ.q (QS.move rfl) rfl ?_
       refine TrQ.q (QS.idxRowN rfl rfl (by repeat constructor) Try.underlying34 Try.sizeOf22 (by rfl) (by omega)) rfl ?_
       refine TrQ.q (QS.elR1 rfl (by repeat constructor) Try.isAgg22 (by omega) (by rfl)) rfl ?_
       refine TrQ.q (QS.move rfl) rfl ?_
       refine TrQ.q (QS.move rfl) rfl ?_
       refine TrQ.q (QS.idxRowN rfl rfl (by repeat constructor) Try.underlying34 Try.sizeOf22 (by rfl) (by omega)) rfl ?_
       refine TrQ.q (QS.elR1 rfl (by repeat constructor) Try.isAgg22 (by omega) (by rfl)) rfl ?_
       refine TrQ.q (QS.idxRowN rfl rfl (by repeat constructor) Try.underlying34 Try.sizeOf22 (by rfl) (by omega)) rfl ?_
       refine TrQ.nil ?_
       refine Tr.storeEl (l := cur.toList) (i := x) (cur.toList.getD (y) default) rfl rfl Try.sizeOf22 (by repeat constructor) (by (try simp only [List.length_set]); omega) (by rfl) rfl ?_
       have hls19 : (List.set cur.toList (x) (cur.toList.getD (y) default)).length = (cur.toList).length := List.length_set
       refine Tr.q (QS.idxRowN rfl rfl (by repeat constructor) Try.underlying34 Try.sizeOf22 (by rfl) (by omega)) rfl ?_
       refine Tr.storeEl (l := (cur.toList.set (x) (cur.toList.getD (y) default))) (i := y) (cur.toList.getD (x) default) rfl rfl Try.sizeOf22 (by repeat constructor) (by (try simp only [List.length_set]); omega) (by rfl) rfl ?_
       have hls20 : (List.set (cur.toList.set (x) (cur.toList.getD (y) default)) (y) (cur.toList.getD (x) default)).length = ((cur.toList.set (x) (cur.toList.getD (y) default))).length := List.length_set
       refine Tr.nil (Tr.thenN (Tr.seq (Tr.region ?_)))
       refine Tr.q (QS.move rfl) rfl ?_
       refine Tr.q (QS.addI rfl rfl (by omega)) rfl ?_
       refine Tr.q (QS.assign rfl) rfl ?_
       refine Tr.nil (Tr.thenN (Tr.region ?_))
       refine Tr.q (QS.move rfl) rfl ?_
       refine Tr.q (QS.subI rfl rfl (by omega)) rfl ?_
       refine Tr.q (QS.assign rfl) rfl ?_
       refine Tr.nil (Tr.inN (Tr.thenN ?_))
       rw [bang, bang, set_swp]
       apply Tr.again (x + 1, y - 1, _)
       ·exact rfl
       ·exact (.cons (by first | rfl | exact lookI rfl (by omega) | exact lookI rfl (by simp) | exact lookB rfl (by simp)) (.cons (by first | rfl | exact lookI rfl (by omega) | exact lookI rfl (by simp) | exact lookB rfl (by simp)) Front.nil))
       ·exact SubX.dropN 39 (by kernel_rfl) rfl
       ·exact (by repeat' constructor)
       ·exact ⟨by omega, by rw [swpW]; exact hk2, by rw [← hk3]; exact (own_part_go hX hY hxy hx1 hy1).symm⟩
       ·exact (by (try dsimp only); omega)
set_option maxRecDepth 100000 in
set_option maxHeartbeats 8000000 in
theorem partitionEq_u32 (d : Array UInt32) (V : Value) (a : Nat) (b : Nat) (p : Nat) (ai : Int) (bi : Int) (pi : Int) (ea : ai = ((a : Nat) : Int)) (eb : bi = ((b : Nat) : Int)) (ep : pi = ((p : Nat) : Int)) (w : World) (hr : (rowE V 22 encU32 d.toList).holds w) (hd : d.size ≤ 1000000) (hab : a + 1 < b) (hb : b ≤ d.size) (hp : p < b) :
  Calls Try.prog 101 #[V, .int .i64 ai, .int .i64 bi, .int .i64 pi] w (fun e w' => e = .returned (.int .i64 ((partitionEqual ltW d a b p).1 : Nat)) ∧ Mut w w' V ∧ (rowE V 22 encU32 (partitionEqual ltW d a b p).2.toList).holds w') := by
 subst ea eb ep
 obtain ⟨d1, hd1⟩ : ∃ x, x = swp d a p := ⟨_, rfl⟩
 have hs1 : d1.size = d.size := by rw [hd1, swpW]
 have hl0 : d.toList.length = d.size := Array.length_toList
 have hl1 : d1.toList.length = d.size := by rw [Array.length_toList]; exact hs1
 refine enterOwn (l := d.toList) (E := encU32) (T := 22) hr Try.func101 rfl Try.ntmps101 rfl ?_
 refine Tr.seq (Tr.region ?_)
 refine Tr.q (QS.assign rfl) rfl ?_
 refine Tr.nil (Tr.thenN (Tr.seq ?_))
 refine Tr.regionT 4 13 HLF.mixed (by kernel_rfl) (panicThen panicBody) ?_
 refine TrQ.pureMove rfl rfl ?_
 refine TrQ.pureMove rfl rfl ?_
 refine TrQ.pureMove rfl rfl ?_
 refine TrQ.pureMove rfl rfl ?_
 refine TrQ.pureNil ?_
 refine TrQ.q (QS.move rfl) rfl ?_
 refine TrQ.q (QS.move rfl) rfl ?_
 refine TrQ.q (QS.idxRowN rfl rfl (by repeat constructor) Try.underlying34 Try.sizeOf22 (by rfl) (by omega)) rfl ?_
 refine TrQ.q (QS.elR1 rfl (by repeat constructor) Try.isAgg22 (by omega) (by rfl)) rfl ?_
 refine TrQ.q (QS.move rfl) rfl ?_
 refine TrQ.q (QS.move rfl) rfl ?_
 refine TrQ.q (QS.idxRowN rfl rfl (by repeat constructor) Try.underlying34 Try.sizeOf22 (by rfl) (by omega)) rfl ?_
 refine TrQ.q (QS.elR1 rfl (by repeat constructor) Try.isAgg22 (by omega) (by rfl)) rfl ?_
 refine TrQ.q (QS.idxRowN rfl rfl (by repeat constructor) Try.underlying34 Try.sizeOf22 (by rfl) (by omega)) rfl ?_
 refine TrQ.nil ?_
 refine Tr.storeEl (l := d.toList) (i := a) (d.toList.getD (p) default) rfl rfl Try.sizeOf22 (by repeat constructor) (by (try simp only [List.length_set]); omega) (by rfl) rfl ?_
 have hls1 : (List.set d.toList (a) (d.toList.getD (p) default)).length = (d.toList).length := List.length_set
 refine Tr.q (QS.idxRowN rfl rfl (by repeat constructor) Try.underlying34 Try.sizeOf22 (by rfl) (by omega)) rfl ?_
 refine Tr.storeEl (l := (d.toList.set (a) (d.toList.getD (p) default))) (i := p) (d.toList.getD (a) default) rfl rfl Try.sizeOf22 (by repeat constructor) (by (try simp only [List.length_set]); omega) (by rfl) rfl ?_
 have hls2 : (List.set (d.toList.set (a) (d.toList.getD (p) default)) (p) (d.toList.getD (a) default)).length = ((d.toList.set (a) (d.toList.getD (p) default))).length := List.length_set
 rw [bang, bang, set_swp, ← hd1]
 refine Tr.nil (Tr.thenN (Tr.seq (Tr.region ?_)))
 refine Tr.q (QS.move rfl) rfl ?_
 refine Tr.q (QS.addI rfl rfl (by omega)) rfl ?_
 refine Tr.q (QS.move rfl) rfl ?_
 refine Tr.q (QS.subI rfl rfl (by omega)) rfl ?_
 refine Tr.q (QS.assign rfl) rfl ?_
 refine Tr.q (QS.assign rfl) rfl ?_
 refine Tr.nil (Tr.thenN (Tr.seq (Tr.block ?_)))
 refine Tr.loop (ι := Nat × Nat × Array UInt32) (fun ⟨i3, j3, cur⟩ => (a + 1 ≤ i3 ∧ i3 ≤ j3 + 1 ∧ j3 < b) ∧ cur.size = d.size ∧ partEqLoop ltW a i3 j3 cur = partitionEqual ltW d a b p) (fun _ => _) (fun ⟨i3, j3, cur⟩ => [rowE V 22 encU32 cur.toList]) (fun ⟨i3, j3, cur⟩ => [(9, .int .i64 (i3 : Nat)), (10, .int .i64 (j3 : Nat))]) (fun ⟨i3, j3, cur⟩ => j3 + 1 - i3) (a + 1, b - 1, d1) ⟨by omega, hs1, by rw [hd1]; rfl⟩ (.cons (by first | rfl | exact lookI rfl (by omega) | exact lookI rfl (by simp) | exact lookB rfl (by simp)) (.cons (by first | rfl | exact lookI rfl (by omega) | exact lookI rfl (by simp) | exact lookB rfl (by simp)) Front.nil)) (by repeat' constructor) rfl (fun i hi m hm => ?_)
 obtain ⟨i3, j3, cur⟩ := i
 replace hi : (a + 1 ≤ i3 ∧ i3 ≤ j3 + 1 ∧ j3 < b) ∧ cur.size = d.size ∧ partEqLoop ltW a i3 j3 cur = partitionEqual ltW d a b p := hi
 replace hm : m = j3 + 1 - i3 := hm
 change Tr _ _ [rowE V 22 encU32 cur.toList] ([(9, .int .i64 (i3 : Nat)), (10, .int .i64 (j3 : Nat))] ++ _) _
 obtain ⟨hk1, hk2, hk3⟩ := hi
 have hcl : cur.toList.length = d.size := by rw [Array.length_toList]; exact hk2
 refine Tr.block (Tr.seq (Tr.block ?_))
 refine Tr.loop (ι := Nat) (fun x => i3 ≤ x ∧ x ≤ j3 + 1 ∧ scanUp (fun z => !ltW cur[a]! z) cur j3 x = scanUp (fun z => !ltW cur[a]! z) cur j3 i3) (fun _ => _) (fun x => [rowE V 22 encU32 cur.toList]) (fun x => [(9, .int .i64 (x : Nat)), (10, .int .i64 (j3 : Nat))]) (fun x => j3 + 1 - x) i3 ⟨Nat.le_refl _, by omega, rfl⟩ (.cons (by first | rfl | exact lookI rfl (by omega) | exact lookI rfl (by simp) | exact lookB rfl (by simp)) (.cons (by first | rfl | exact lookI rfl (by omega) | exact lookI rfl (by simp) | exact lookB rfl (by simp)) Front.nil)) (by repeat' constructor) rfl (fun x hi m hm => ?_)
 replace hi : i3 ≤ x ∧ x ≤ j3 + 1 ∧ scanUp (fun z => !ltW cur[a]! z) cur j3 x = scanUp (fun z => !ltW cur[a]! z) cur j3 i3 := hi
 replace hm : m = j3 + 1 - x := hm
 change Tr _ _ [rowE V 22 encU32 cur.toList] ([(9, .int .i64 (x : Nat)), (10, .int .i64 (j3 : Nat))] ++ _) _
 obtain ⟨hx1, hx2, hx3⟩ := hi
 refine Tr.seq (Tr.seq ?_)
 refine Tr.regionQ HLF.mixed (by kernel_rfl) ?_
 refine TrQ.q (QS.move rfl) rfl ?_
 refine TrQ.q (QS.move rfl) rfl ?_
 refine TrQ.q (QS.leq rfl rfl) rfl ?_
 refine TrQ.q (QS.move rfl) rfl ?_
 apply TrQ.andP
 ·exact (rfl : _ = (11, 32, 43))
 ·exact rfl
 ·intro hT3; have hT3' := hT3
  try simp only [bs] at hT3'
  refine TrQ.gq rfl rfl hT3 (QS.move rfl) rfl ?_
  refine TrQ.gq rfl rfl hT3 (QS.move rfl) rfl ?_
  refine TrQ.gq rfl rfl hT3 (QS.idxRowN rfl rfl (by repeat constructor) Try.underlying34 Try.sizeOf22 (by rfl) (by omega)) rfl ?_
  refine TrQ.gq rfl rfl hT3 (QS.elR1 rfl (by repeat constructor) Try.isAgg22 (by omega) (by rfl)) rfl ?_
  refine TrQ.gq rfl rfl hT3 (QS.move rfl) rfl ?_
  refine TrQ.gq rfl rfl hT3 (QS.move rfl) rfl ?_
  refine TrQ.gq rfl rfl hT3 (QS.idxRowN rfl rfl (by repeat constructor) Try.underlying34 Try.sizeOf22 (by rfl) (by omega)) rfl ?_
  refine TrQ.gq rfl rfl hT3 (QS.elR1 rfl (by repeat constructor) Try.isAgg22 (by omega) (by rfl)) rfl ?_
  refine TrQ.gq rfl rfl hT3 (QS.call rfl Try.call100 (fun w hw => less_any (cur.toList.getD (a) default) (cur.toList.getD (x) default) w)) rfl ?_
  refine TrQ.gq rfl rfl hT3 (QS.not rfl) rfl ?_
  refine TrQ.q (QS.pickT rfl hT3 rfl) rfl ?_
  exact TrQ.end (Sub.cons rfl (Sub.dropN 11 (by kernel_rfl) rfl))
 ·intro hF3
  refine TrQ.gskip rfl rfl hF3 rfl ?_
  refine TrQ.gskip rfl rfl hF3 rfl ?_
  refine TrQ.gskip rfl rfl hF3 rfl ?_
  refine TrQ.gskip rfl rfl hF3 rfl ?_
  refine TrQ.gskip rfl rfl hF3 rfl ?_
  refine TrQ.gskip rfl rfl hF3 rfl ?_
  refine TrQ.gskip rfl rfl hF3 rfl ?_
  refine TrQ.gskip rfl rfl hF3 rfl ?_
  refine TrQ.gskip rfl rfl hF3 rfl ?_
  refine TrQ.gskip rfl rfl hF3 rfl ?_
  refine TrQ.q (QS.pickF rfl hF3 rfl) rfl ?_
  exact TrQ.end (Sub.cons rfl (Sub.dropN 11 (by kernel_rfl) rfl))
 refine TrQ.nil ?_
 refine Tr.thenN ?_
 refine Tr.cond rfl (fun h4 => ?_) (fun h4 => ?_)
 ·try simp only [bs] at h4
  refine Tr.skip (Tr.thenN (Tr.block (Tr.region ?_)))
  refine Tr.q (QS.move rfl) rfl ?_
  refine Tr.q (QS.addI rfl rfl (by omega)) rfl ?_
  refine Tr.q (QS.assign rfl) rfl ?_
  refine Tr.nil (Tr.inN (Tr.thenN ?_))
  apply Tr.again (x + 1)
  ·exact rfl
  ·exact (.cons (by first | rfl | exact lookI rfl (by omega) | exact lookI rfl (by simp) | exact lookB rfl (by simp)) (.cons (by first | rfl | exact lookI rfl (by omega) | exact lookI rfl (by simp) | exact lookB rfl (by simp)) Front.nil))
  ·exact SubX.dropN 10 (by kernel_rfl) rfl
  ·exact (by repeat' constructor)
  ·exact ⟨by omega, by omega, by rw [← hx3]; exact (up_go (by omega) (by rw [← bang, ← bang]; simp_all)).symm⟩
  ·exact (by (try dsimp only); omega)
 ·try simp only [bs] at h4
  refine Tr.exit ?_
  refine Tr.thenE (Tr.thenE (Tr.inHit (Tr.thenN (Tr.seq (Tr.block ?_)))))
  refine Tr.loop (ι := Nat) (fun y => y ≤ j3 ∧ x ≤ y + 1 ∧ scanDown (fun z => ltW cur[a]! z) cur x y = scanDown (fun z => ltW cur[a]! z) cur x j3) (fun _ => _) (fun y => [rowE V 22 encU32 cur.toList]) (fun y => [(9, .int .i64 (x : Nat)), (10, .int .i64 (y : Nat))]) (fun y => y) j3 ⟨Nat.le_refl _, by omega, rfl⟩ (.cons (by first | rfl | exact lookI rfl (by omega) | exact lookI rfl (by simp) | exact lookB rfl (by simp)) (.cons (by first | rfl | exact lookI rfl (by omega) | exact lookI rfl (by simp) | exact lookB rfl (by simp)) Front.nil)) (by repeat' constructor) rfl (fun y hi m hm => ?_)
  replace hi : y ≤ j3 ∧ x ≤ y + 1 ∧ scanDown (fun z => ltW cur[a]! z) cur x y = scanDown (fun z => ltW cur[a]! z) cur x j3 := hi
  replace hm : m = y := hm
  change Tr _ _ [rowE V 22 encU32 cur.toList] ([(9, .int .i64 (x : Nat)), (10, .int .i64 (y : Nat))] ++ _) _
  obtain ⟨hy1, hy2, hy3⟩ := hi
  refine Tr.seq (Tr.seq ?_)
  refine Tr.regionQ HLF.mixed (by kernel_rfl) ?_
  refine TrQ.q (QS.move rfl) rfl ?_
  refine TrQ.q (QS.move rfl) rfl ?_
  refine TrQ.q (QS.leq rfl rfl) rfl ?_
  refine TrQ.q (QS.move rfl) rfl ?_
  apply TrQ.andP
  ·exact (rfl : _ = (10, 49, 59))
  ·exact rfl
  ·intro hT5; have hT5' := hT5
   try simp only [bs] at hT5'
   refine TrQ.gq rfl rfl hT5 (QS.move rfl) rfl ?_
   refine TrQ.gq rfl rfl hT5 (QS.move rfl) rfl ?_
   refine TrQ.gq rfl rfl hT5 (QS.idxRowN rfl rfl (by repeat constructor) Try.underlying34 Try.sizeOf22 (by rfl) (by omega)) rfl ?_
   refine TrQ.gq rfl rfl hT5 (QS.elR1 rfl (by repeat constructor) Try.isAgg22 (by omega) (by rfl)) rfl ?_
   refine TrQ.gq rfl rfl hT5 (QS.move rfl) rfl ?_
   refine TrQ.gq rfl rfl hT5 (QS.move rfl) rfl ?_
   refine TrQ.gq rfl rfl hT5 (QS.idxRowN rfl rfl (by repeat constructor) Try.underlying34 Try.sizeOf22 (by rfl) (by omega)) rfl ?_
   refine TrQ.gq rfl rfl hT5 (QS.elR1 rfl (by repeat constructor) Try.isAgg22 (by omega) (by rfl)) rfl ?_
   refine TrQ.gq rfl rfl hT5 (QS.call rfl Try.call100 (fun w hw => less_any (cur.toList.getD (a) default) (cur.toList.getD (y) default) w)) rfl ?_
   refine TrQ.q (QS.pickT rfl hT5 rfl) rfl ?_
   exact TrQ.end (Sub.cons rfl (Sub.dropN 10 (by kernel_rfl) rfl))
  ·intro hF5
   refine TrQ.gskip rfl rfl hF5 rfl ?_
   refine TrQ.gskip rfl rfl hF5 rfl ?_
   refine TrQ.gskip rfl rfl hF5 rfl ?_
   refine TrQ.gskip rfl rfl hF5 rfl ?_
   refine TrQ.gskip rfl rfl hF5 rfl ?_
   refine TrQ.gskip rfl rfl hF5 rfl ?_
   refine TrQ.gskip rfl rfl hF5 rfl ?_
   refine TrQ.gskip rfl rfl hF5 rfl ?_
   refine TrQ.gskip rfl rfl hF5 rfl ?_
   refine TrQ.q (QS.pickF rfl hF5 rfl) rfl ?_
   exact TrQ.end (Sub.cons rfl (Sub.dropN 10 (by kernel_rfl) rfl))
  refine TrQ.nil ?_
  refine Tr.thenN ?_
  refine Tr.cond rfl (fun h6 => ?_) (fun h6 => ?_)
  ·try simp only [bs] at h6
   refine Tr.skip (Tr.thenN (Tr.block (Tr.region ?_)))
   refine Tr.q (QS.move rfl) rfl ?_
   refine Tr.q (QS.subI rfl rfl (by omega)) rfl ?_
   refine Tr.q (QS.assign rfl) rfl ?_
   refine Tr.nil (Tr.inN (Tr.thenN ?_))
   apply Tr.again (y - 1)
   ·exact rfl
   ·exact (.cons (by first | rfl | exact lookI rfl (by omega) | exact lookI rfl (by simp) | exact lookB rfl (by simp)) (.cons (by first | rfl | exact lookI rfl (by omega) | exact lookI rfl (by simp) | exact lookB rfl (by simp)) Front.nil))
   ·exact SubX.dropN 10 (by kernel_rfl) rfl
   ·exact (by repeat' constructor)
   ·exact ⟨by omega, by omega, by rw [← hy3]; exact (down_go (by omega) (by omega) (by rw [← bang, ← bang]; simp_all)).symm⟩
   ·exact (by (try dsimp only); omega)
  ·try simp only [bs] at h6
   refine Tr.exit ?_
   refine Tr.thenE (Tr.thenE (Tr.inHit (Tr.thenN (Tr.seq (Tr.seq ?_)))))
   have hX : scanUp (fun z => !ltW cur[a]! z) cur j3 i3 = x := by
    rw [← hx3]; exact up_stop (by
     rcases h4 with q | q
     ·exact .inl (by omega)
     ·exact .inr (by rw [← bang, ← bang, q]; rfl))
   have hY : scanDown (fun z => ltW cur[a]! z) cur x j3 = y := by
    rw [← hy3]; exact down_stop (by
     rcases h6 with q | q
     ·exact .inl (by omega)
     ·exact .inr (by rw [← bang, ← bang]; exact q))
   refine Tr.region ?_
   refine Tr.q (QS.move rfl) rfl ?_
   refine Tr.q (QS.move rfl) rfl ?_
   refine Tr.q (QS.gtr rfl rfl) rfl ?_
   refine Tr.nil (Tr.thenN ?_)
   refine Tr.cond rfl (fun h7 => ?_) (fun h7 => ?_)
   ·try simp only [bs] at h7
    refine Tr.exit ?_
    refine Tr.thenE ?_
    refine Tr.inMiss rfl ?_
    refine Tr.thenE (Tr.inHit (Tr.thenN (Tr.seq (Tr.region ?_))))
    refine Tr.q (QS.move rfl) rfl ?_
    refine Tr.q (QS.assign rfl) rfl ?_
    refine Tr.nil (Tr.thenN (Tr.ret ?_))
    refine Tr.ret1 Try.results101 rfl (fun w' hw => ?_)
    have he := parteq_end hX hY (by omega)
    rw [he] at hk3
    exact ⟨by rw [← hk3], by rw [← hk3]; exact HpOK.mutOwn hw (.head _) rfl⟩
   ·try simp only [bs] at h7
    refine Tr.skip (Tr.thenN (Tr.seq ?_))
    have hxy : x < y := by
     rcases Nat.lt_or_ge x y with q | q
     ·exact q
     ·exfalso
      have e : x = y := by omega
      rcases h4 with g1 | g1
      ·omega
      ·rcases h6 with g2 | g2
       ·omega
       ·rw [e, g2] at g1; cases g1
    refine Tr.regionT 4 13 HLF.mixed (by kernel_rfl) (panicThen (panicIn (panicThen (panicIn (panicThen panicBody))))) ?_
    refine TrQ.pureMove rfl rfl ?_
    refine TrQ.pureMove rfl rfl ?_
    refine TrQ.pureMove rfl rfl ?_
    refine TrQ.pureMove rfl rfl ?_
    refine TrQ.pureNil ?_
    refine TrQ.q (QS.move rfl) rfl ?_
    refine TrQ.q (QS.move rfl) rfl ?_
    refine TrQ.q (QS.idxRowN rfl rfl (by repeat constructor) Try.underlying34 Try.sizeOf22 (by rfl) (by omega)) rfl ?_
    refine TrQ.q (QS.elR1 rfl (by repeat constructor) Try.isAgg22 (by omega) (by rfl)) rfl ?_
    refine TrQ.q (QS.move rfl) rfl ?_
    refine TrQ.q (QS.move rfl) rfl ?_
    refine TrQ.q (QS.idxRowN rfl rfl (by repeat constructor) Try.underlying34 Try.sizeOf22 (by rfl) (by omega)) rfl ?_
    refine TrQ.q (QS.elR1 rfl (by repeat constructor) Try.isAgg22 (by omega) (by rfl)) rfl ?_
    refine TrQ.q (QS.idxRowN rfl rfl (by repeat constructor) Try.underlying34 Try.sizeOf22 (by rfl) (by omega)) rfl ?_
    refine TrQ.nil ?_
    refine Tr.storeEl (l := cur.toList) (i := x) (cur.toList.getD (y) default) rfl rfl Try.sizeOf22 (by repeat constructor) (by (try simp only [List.length_set]); omega) (by rfl) rfl ?_
    have hls8 : (List.set cur.toList (x) (cur.toList.getD (y) default)).length = (cur.toList).length := List.length_set
    refine Tr.q (QS.idxRowN rfl rfl (by repeat constructor) Try.underlying34 Try.sizeOf22 (by rfl) (by omega)) rfl ?_
    refine Tr.storeEl (l := (cur.toList.set (x) (cur.toList.getD (y) default))) (i := y) (cur.toList.getD (x) default) rfl rfl Try.sizeOf22 (by repeat constructor) (by (try simp only [List.length_set]); omega) (by rfl) rfl ?_
    have hls9 : (List.set (cur.toList.set (x) (cur.toList.getD (y) default)) (y) (cur.toList.getD (x) default)).length = ((cur.toList.set (x) (cur.toList.getD (y) default))).length := List.length_set
    refine Tr.nil (Tr.thenN (Tr.seq (Tr.region ?_)))
    refine Tr.q (QS.move rfl) rfl ?_
    refine Tr.q (QS.addI rfl rfl (by omega)) rfl ?_
    refine Tr.q (QS.assign rfl) rfl ?_
    refine Tr.nil (Tr.thenN (Tr.region ?_))
    refine Tr.q (QS.move rfl) rfl ?_
    refine Tr.q (QS.subI rfl rfl (by omega)) rfl ?_
    refine Tr.q (QS.assign rfl) rfl ?_
    refine Tr.nil (Tr.inN (Tr.thenN ?_))
    rw [bang, bang, set_swp]
    apply Tr.again (x + 1, y - 1, _)
    ·exact rfl
    ·exact (.cons (by first | rfl | exact lookI rfl (by omega) | exact lookI rfl (by simp) | exact lookB rfl (by simp)) (.cons (by first | rfl | exact lookI rfl (by omega) | exact lookI rfl (by simp) | exact lookB rfl (by simp)) Front.nil))
    ·exact SubX.dropN 39 (by kernel_rfl) rfl
    ·exact (by repeat' constructor)
    ·exact ⟨by omega, by rw [swpW]; exact hk2, by rw [← hk3]; exact (parteq_go hX hY hxy hx1 hy1).symm⟩
    ·exact (by (try dsimp only); omega)
set_option maxRecDepth 100000 in
set_option maxHeartbeats 8000000 in
theorem partialIns_u32 (d : Array UInt32) (V : Value) (a : Nat) (b : Nat) (ai : Int) (bi : Int) (ea : ai = ((a : Nat) : Int)) (eb : bi = ((b : Nat) : Int)) (w : World) (hr : (rowE V 22 encU32 d.toList).holds w) (hd : d.size ≤ 1000000) (hab : a + 1 < b) (hb : b ≤ d.size) :
  Calls Try.prog 99 #[V, .int .i64 ai, .int .i64 bi] w (fun e w' => e = .returned (.bool (partialInsertionSort ltW d a b).2) ∧ Mut w w' V ∧ (rowE V 22 encU32 (partialInsertionSort ltW d a b).1.toList).holds w') := by
 subst ea eb
 refine enterOwn (l := d.toList) (E := encU32) (T := 22) hr Try.func99 rfl Try.ntmps99 rfl ?_
 refine Tr.seq (Tr.region ?_)
 refine Tr.q (QS.assign rfl) rfl ?_
 refine Tr.nil (Tr.thenN (Tr.seq (Tr.region ?_)))
 refine Tr.q (QS.move rfl) rfl ?_
 refine Tr.q (QS.addI rfl rfl (by omega)) rfl ?_
 refine Tr.q (QS.assign rfl) rfl ?_
 refine Tr.nil (Tr.thenN (Tr.seq (Tr.seq (Tr.region ?_))))
 refine Tr.q (QS.assign rfl) rfl ?_
 refine Tr.nil (Tr.thenN (Tr.block ?_))
 refine Tr.loop (ι := Nat × Nat × Array UInt32) (fun ⟨s, i, cur⟩ => (s ≤ 5 ∧ a + 1 ≤ i ∧ i ≤ b) ∧ cur.size = d.size ∧ partialIns ltW a b (5 - s) i cur = partialInsertionSort ltW d a b) (fun _ => _) (fun ⟨s, i, cur⟩ => [rowE V 22 encU32 cur.toList]) (fun ⟨s, i, cur⟩ => [(8, .int .i64 (s : Nat)), (7, .int .i64 (i : Nat))]) (fun ⟨s, i, cur⟩ => 5 - s) (0, a + 1, d) ⟨by omega, rfl, rfl⟩ (.cons (by first | rfl | exact lookI rfl (by omega) | exact lookI rfl (by simp) | exact lookB rfl (by simp)) (.cons (by first | rfl | exact lookI rfl (by omega) | exact lookI rfl (by simp) | exact lookB rfl (by simp)) Front.nil)) (by repeat' constructor) rfl (fun i hi m hm => ?_)
 obtain ⟨s, i, cur⟩ := i
 replace hi : (s ≤ 5 ∧ a + 1 ≤ i ∧ i ≤ b) ∧ cur.size = d.size ∧ partialIns ltW a b (5 - s) i cur = partialInsertionSort ltW d a b := hi
 replace hm : m = 5 - s := hm
 change Tr _ _ [rowE V 22 encU32 cur.toList] ([(8, .int .i64 (s : Nat)), (7, .int .i64 (i : Nat))] ++ _) _
 obtain ⟨hk1, hk2, hk3⟩ := hi
 have hcl : cur.toList.length = d.size := by rw [Array.length_toList]; exact hk2
 refine Tr.seq (Tr.seq (Tr.region ?_))
 refine Tr.q (QS.move rfl) rfl ?_
 refine Tr.q (QS.lss rfl rfl) rfl ?_
 refine Tr.nil (Tr.thenN ?_)
 refine Tr.cond rfl (fun h1 => ?_) (fun h1 => ?_)
 ·try simp only [bs] at h1
  refine Tr.skip (Tr.thenN (Tr.seq (Tr.block (Tr.seq (Tr.block ?_)))))
  refine Tr.loop (ι := Nat) (fun x => i ≤ x ∧ x ≤ b ∧ scanSorted ltW cur b x = scanSorted ltW cur b i) (fun _ => _) (fun x => [rowE V 22 encU32 cur.toList]) (fun x => [(7, .int .i64 (x : Nat)), (8, .int .i64 (s : Nat))]) (fun x => b - x) i ⟨Nat.le_refl _, by omega, rfl⟩ (.cons (by first | rfl | exact lookI rfl (by omega) | exact lookI rfl (by simp) | exact lookB rfl (by simp)) (.cons (by first | rfl | exact lookI rfl (by omega) | exact lookI rfl (by simp) | exact lookB rfl (by simp)) Front.nil)) (by repeat' constructor) rfl (fun x hi m hm => ?_)
  replace hi : i ≤ x ∧ x ≤ b ∧ scanSorted ltW cur b x = scanSorted ltW cur b i := hi
  replace hm : m = b - x := hm
  change Tr _ _ [rowE V 22 encU32 cur.toList] ([(7, .int .i64 (x : Nat)), (8, .int .i64 (s : Nat))] ++ _) _
  obtain ⟨hx1, hx2, hx3⟩ := hi
  have ex : ((x : Int) - 1).toNat = x - 1 := by omega
  refine Tr.seq (Tr.seq ?_)
  refine Tr.regionQ HLF.mixed (by kernel_rfl) ?_
  refine TrQ.q (QS.move rfl) rfl ?_
  refine TrQ.q (QS.move rfl) rfl ?_
  refine TrQ.q (QS.lss rfl rfl) rfl ?_
  refine TrQ.q (QS.move rfl) rfl ?_
  apply TrQ.andP
  ·exact (rfl : _ = (12, 20, 32))
  ·exact rfl
  ·intro hT2; have hT2' := hT2
   try simp only [bs] at hT2'
   refine TrQ.gq rfl rfl hT2 (QS.move rfl) rfl ?_
   refine TrQ.gq rfl rfl hT2 (QS.move rfl) rfl ?_
   refine TrQ.gq rfl rfl hT2 (QS.idxRowN rfl rfl (by repeat constructor) Try.underlying34 Try.sizeOf22 (by rfl) (by omega)) rfl ?_
   refine TrQ.gq rfl rfl hT2 (QS.elR1 rfl (by repeat constructor) Try.isAgg22 (by omega) (by rfl)) rfl ?_
   refine TrQ.gq rfl rfl hT2 (QS.move rfl) rfl ?_
   refine TrQ.gq rfl rfl hT2 (QS.move rfl) rfl ?_
   refine TrQ.gq rfl rfl hT2 (QS.subI rfl rfl (by omega)) rfl ?_
   refine TrQ.gq rfl rfl hT2 (QS.idxRow rfl rfl (by repeat constructor) Try.underlying34 Try.sizeOf22 (by rfl) (by omega)) rfl ?_
   refine TrQ.gq rfl rfl hT2 (QS.elR1 rfl (by repeat constructor) Try.isAgg22 (by omega) (by rfl)) rfl ?_
   refine TrQ.gq rfl rfl hT2 (QS.call rfl Try.call100 (fun w hw => less_any (cur.toList.getD (x) default) (cur.toList.getD (((x : Int) - 1).toNat) default) w)) rfl ?_
   refine TrQ.gq rfl rfl hT2 (QS.not rfl) rfl ?_
   refine TrQ.q (QS.pickT rfl hT2 rfl) rfl ?_
   exact TrQ.end (Sub.cons rfl (Sub.dropN 12 (by kernel_rfl) rfl))
  ·intro hF2
   refine TrQ.gskip rfl rfl hF2 rfl ?_
   refine TrQ.gskip rfl rfl hF2 rfl ?_
   refine TrQ.gskip rfl rfl hF2 rfl ?_
   refine TrQ.gskip rfl rfl hF2 rfl ?_
   refine TrQ.gskip rfl rfl hF2 rfl ?_
   refine TrQ.gskip rfl rfl hF2 rfl ?_
   refine TrQ.gskip rfl rfl hF2 rfl ?_
   refine TrQ.gskip rfl rfl hF2 rfl ?_
   refine TrQ.gskip rfl rfl hF2 rfl ?_
   refine TrQ.gskip rfl rfl hF2 rfl ?_
   refine TrQ.gskip rfl rfl hF2 rfl ?_
   refine TrQ.q (QS.pickF rfl hF2 rfl) rfl ?_
   exact TrQ.end (Sub.cons rfl (Sub.dropN 12 (by kernel_rfl) rfl))
  refine TrQ.nil ?_
  refine Tr.thenN ?_
  refine Tr.cond rfl (fun h3 => ?_) (fun h3 => ?_)
  ·try simp only [bs] at h3
   refine Tr.skip (Tr.thenN (Tr.block (Tr.region ?_)))
   refine Tr.q (QS.move rfl) rfl ?_
   refine Tr.q (QS.addI rfl rfl (by omega)) rfl ?_
   refine Tr.q (QS.assign rfl) rfl ?_
   refine Tr.nil (Tr.inN (Tr.thenN ?_))
   apply Tr.again (x + 1)
   ·exact rfl
   ·exact (.cons (by first | rfl | exact lookI rfl (by omega) | exact lookI rfl (by simp) | exact lookB rfl (by simp)) (.cons (by first | rfl | exact lookI rfl (by omega) | exact lookI rfl (by simp) | exact lookB rfl (by simp)) Front.nil))
   ·exact SubX.dropN 10 (by kernel_rfl) rfl
   ·exact (by repeat' constructor)
   ·exact ⟨by omega, by omega, by rw [← hx3]; exact (ss_go (by omega) (by rw [← bang, ← bang, ← ex]; simp_all)).symm⟩
   ·exact (by (try dsimp only); omega)
  ·try simp only [bs] at h3
   refine Tr.exit ?_
   refine Tr.thenE (Tr.thenE (Tr.inHit (Tr.thenN (Tr.seq (Tr.seq ?_)))))
   have hX : scanSorted ltW cur b i = x := by
    rw [← hx3]; exact ss_stop (by
     rcases h3 with q | q
     ·exact .inl (by omega)
     ·exact .inr (by rw [← bang, ← bang, ← ex]; exact q))
   refine Tr.region ?_
   refine Tr.q (QS.move rfl) rfl ?_
   refine Tr.q (QS.move rfl) rfl ?_
   refine Tr.q (QS.eql rfl rfl) rfl ?_
   refine Tr.nil (Tr.thenN ?_)
   refine Tr.cond rfl (fun h4 => ?_) (fun h4 => ?_)
   ·try simp only [bs] at h4
    refine Tr.seq (Tr.region ?_)
    refine Tr.q (QS.assign rfl) rfl ?_
    refine Tr.nil (Tr.thenN (Tr.ret (Tr.thenR ?_)))
    refine Tr.inR ?_
    refine Tr.thenR (Tr.thenR ?_)
    refine Tr.inR ?_
    refine Tr.thenR ?_
    refine Tr.ret1 Try.results99 rfl (fun w' hw => ?_)
    rw [show 5 - s = (4 - s) + 1 by omega, own_pi_end hX (by omega)] at hk3
    exact ⟨by rw [← hk3], by rw [← hk3]; exact HpOK.mutOwn hw (.head _) rfl⟩
   ·try simp only [bs] at h4
    refine Tr.skip (Tr.thenN (Tr.seq (Tr.seq (Tr.region ?_))))
    refine Tr.q (QS.move rfl) rfl ?_
    refine Tr.q (QS.move rfl) rfl ?_
    refine Tr.q (QS.subI rfl rfl (by omega)) rfl ?_
    refine Tr.q (QS.lss rfl rfl) rfl ?_
    refine Tr.nil (Tr.thenN ?_)
    refine Tr.cond rfl (fun h5 => ?_) (fun h5 => ?_)
    ·try simp only [bs] at h5
     refine Tr.seq (Tr.region ?_)
     refine Tr.q (QS.assign rfl) rfl ?_
     refine Tr.nil (Tr.thenN (Tr.ret (Tr.thenR ?_)))
     refine Tr.inR ?_
     refine Tr.thenR (Tr.thenR ?_)
     refine Tr.inR ?_
     refine Tr.thenR ?_
     refine Tr.ret1 Try.results99 rfl (fun w' hw => ?_)
     rw [show 5 - s = (4 - s) + 1 by omega, pi_few hX (by omega) (by omega)] at hk3
     exact ⟨by rw [← hk3], by rw [← hk3]; exact HpOK.mutOwn hw (.head _) rfl⟩
    ·try simp only [bs] at h5
     refine Tr.skip (Tr.thenN (Tr.seq ?_))
     refine Tr.regionT 5 15 HLF.mixed (by kernel_rfl) (panicThen (panicIn (panicThen (panicThen (panicIn (panicThen panicBody)))))) ?_
     refine TrQ.pureMove rfl rfl ?_
     refine TrQ.pureMove rfl rfl ?_
     refine TrQ.pureMove rfl rfl ?_
     refine TrQ.pureMove rfl rfl ?_
     refine TrQ.pureQ (fun _ => QS.subI rfl rfl (by omega)) (by rfl) rfl ?_
     refine TrQ.pureNil ?_
     refine TrQ.q (QS.move rfl) rfl ?_
     refine TrQ.q (QS.move rfl) rfl ?_
     refine TrQ.q (QS.subI rfl rfl (by omega)) rfl ?_
     refine TrQ.q (QS.idxRow rfl rfl (by repeat constructor) Try.underlying34 Try.sizeOf22 (by rfl) (by omega)) rfl ?_
     refine TrQ.q (QS.elR1 rfl (by repeat constructor) Try.isAgg22 (by omega) (by rfl)) rfl ?_
     refine TrQ.q (QS.move rfl) rfl ?_
     refine TrQ.q (QS.move rfl) rfl ?_
     refine TrQ.q (QS.idxRowN rfl rfl (by repeat constructor) Try.underlying34 Try.sizeOf22 (by rfl) (by omega)) rfl ?_
     refine TrQ.q (QS.elR1 rfl (by repeat constructor) Try.isAgg22 (by omega) (by rfl)) rfl ?_
     refine TrQ.q (QS.idxRowN rfl rfl (by repeat constructor) Try.underlying34 Try.sizeOf22 (by rfl) (by omega)) rfl ?_
     refine TrQ.nil ?_
     refine Tr.storeEl (l := cur.toList) (i := x) (cur.toList.getD (((x : Int) - 1).toNat) default) rfl rfl Try.sizeOf22 (by repeat constructor) (by (try simp only [List.length_set]); omega) (by rfl) rfl ?_
     have hls6 : (List.set cur.toList (x) (cur.toList.getD (((x : Int) - 1).toNat) default)).length = (cur.toList).length := List.length_set
     refine Tr.q (QS.idxRow rfl rfl (by repeat constructor) Try.underlying34 Try.sizeOf22 (by rfl) (by omega)) rfl ?_
     refine Tr.storeEl (l := (cur.toList.set (x) (cur.toList.getD (((x : Int) - 1).toNat) default))) (i := ((x : Int) - 1).toNat) (cur.toList.getD (x) default) rfl rfl Try.sizeOf22 (by repeat constructor) (by (try simp only [List.length_set]); omega) (by rfl) rfl ?_
     have hls7 : (List.set (cur.toList.set (x) (cur.toList.getD (((x : Int) - 1).toNat) default)) (((x : Int) - 1).toNat) (cur.toList.getD (x) default)).length = ((cur.toList.set (x) (cur.toList.getD (((x : Int) - 1).toNat) default))).length := List.length_set
     rw [ex, bang, bang, set_swp]
     refine Tr.nil (Tr.thenN ?_)
     refine Tr.seqJ (ι := Array UInt32) (fun d3 => d3.size = d.size ∧ d3 = if x - a ≥ 2 then shiftDown ltW (x - 1) (swp cur x (x - 1)) else swp cur x (x - 1)) (fun _ => Bg.less w V) (fun d3 => [rowE V 22 encU32 d3.toList]) (fun d3 => []) ?_ (fun d3 hi => ?_)
     ·skip
      refine Tr.seq (Tr.region ?_)
      refine Tr.q (QS.move rfl) rfl ?_
      refine Tr.q (QS.move rfl) rfl ?_
      refine Tr.q (QS.subI rfl rfl (by omega)) rfl ?_
      refine Tr.q (QS.geq rfl rfl) rfl ?_
      refine Tr.nil (Tr.thenN ?_)
      refine Tr.cond rfl (fun h8 => ?_) (fun h8 => ?_)
      ·try simp only [bs] at h8
       refine Tr.seq (Tr.region ?_)
       refine Tr.q (QS.move rfl) rfl ?_
       refine Tr.q (QS.subI rfl rfl (by omega)) rfl ?_
       refine Tr.q (QS.assign rfl) rfl ?_
       refine Tr.nil (Tr.thenN (Tr.block ?_))
       refine Tr.loop (ι := Nat × Array UInt32) (fun ⟨y, c3⟩ => y < x ∧ c3.size = d.size ∧ shiftDown ltW y c3 = shiftDown ltW (x - 1) (swp cur x (x - 1))) (fun _ => _) (fun ⟨y, c3⟩ => [rowE V 22 encU32 c3.toList]) (fun ⟨y, c3⟩ => [(9, .int .i64 (y : Nat))]) (fun ⟨y, c3⟩ => y) (x - 1, _) ⟨by omega, by rw [swpW]; exact hk2, rfl⟩ (.cons (by first | rfl | exact lookI rfl (by omega) | exact lookI rfl (by simp) | exact lookB rfl (by simp)) Front.nil) (by repeat' constructor) rfl (fun i hi m hm => ?_)
       obtain ⟨y, c3⟩ := i
       replace hi : y < x ∧ c3.size = d.size ∧ shiftDown ltW y c3 = shiftDown ltW (x - 1) (swp cur x (x - 1)) := hi
       replace hm : m = y := hm
       change Tr _ _ [rowE V 22 encU32 c3.toList] ([(9, .int .i64 (y : Nat))] ++ _) _
       obtain ⟨hy1, hy2, hy3⟩ := hi
       have ey : ((y : Int) - 1).toNat = y - 1 ∨ y = 0 := by omega
       have hc3 : c3.toList.length = d.size := by rw [Array.length_toList]; exact hy2
       refine Tr.seq (Tr.seq (Tr.region ?_))
       refine Tr.q (QS.move rfl) rfl ?_
       refine Tr.q (QS.geq rfl rfl) rfl ?_
       refine Tr.nil (Tr.thenN ?_)
       refine Tr.cond rfl (fun h9 => ?_) (fun h9 => ?_)
       ·try simp only [bs] at h9
        refine Tr.skip (Tr.thenN (Tr.seq (Tr.block (Tr.seq (Tr.seq ?_)))))
        refine Tr.regionQ HLF.mixed (by kernel_rfl) ?_
        refine TrQ.q (QS.move rfl) rfl ?_
        refine TrQ.q (QS.move rfl) rfl ?_
        refine TrQ.q (QS.idxRowN rfl rfl (by repeat constructor) Try.underlying34 Try.sizeOf22 (by rfl) (by omega)) rfl ?_
        refine TrQ.q (QS.elR1 rfl (by repeat constructor) Try.isAgg22 (by omega) (by rfl)) rfl ?_
        refine TrQ.q (QS.move rfl) rfl ?_
        refine TrQ.q (QS.move rfl) rfl ?_
        refine TrQ.q (QS.subI rfl rfl (by omega)) rfl ?_
        refine TrQ.q (QS.idxRow rfl rfl (by repeat constructor) Try.underlying34 Try.sizeOf22 (by rfl) (by omega)) rfl ?_
        refine TrQ.q (QS.elR1 rfl (by repeat constructor) Try.isAgg22 (by omega) (by rfl)) rfl ?_
        refine TrQ.q (QS.call rfl Try.call100 (fun w hw => less_any (c3.toList.getD (y) default) (c3.toList.getD (((y : Int) - 1).toNat) default) w)) rfl ?_
        refine TrQ.q (QS.not rfl) rfl ?_
        refine TrQ.nil ?_
        refine Tr.thenN ?_
        refine Tr.cond rfl (fun h10 => ?_) (fun h10 => ?_)
        ·try simp only [bs] at h10
         refine Tr.exit ?_
         refine Tr.thenE ?_
         refine Tr.inMiss rfl ?_
         refine Tr.thenE (Tr.thenE (Tr.inHit (Tr.thenN ?_)))
         apply Tr.joined c3
         ·exact rfl
         ·exact Front.nil
         ·exact SubX.dropN 21 (by kernel_rfl) rfl
         ·exact (by repeat' constructor)
         ·exact ⟨hy2, by rw [if_pos (by omega), ← hy3]; exact (sd_stop (by first | exact .inl (by omega) | exact .inr (by have e := ey.resolve_right (by omega); rw [← bang, ← bang, ← e]; assumption))).symm⟩
        ·try simp only [bs] at h10
         refine Tr.skip (Tr.thenN ?_)
         refine Tr.regionT 5 15 HLF.mixed (by kernel_rfl) (panicIn (panicThen (panicThen (panicIn (panicThen (panicIn (panicThen (panicThen (panicIn (panicThen panicBody)))))))))) ?_
         refine TrQ.pureMove rfl rfl ?_
         refine TrQ.pureMove rfl rfl ?_
         refine TrQ.pureMove rfl rfl ?_
         refine TrQ.pureMove rfl rfl ?_
         refine TrQ.pureQ (fun _ => QS.subI rfl rfl (by omega)) (by rfl) rfl ?_
         refine TrQ.pureNil ?_
         refine TrQ.q (QS.move rfl) rfl ?_
         refine TrQ.q (QS.move rfl) rfl ?_
         refine TrQ.q (QS.subI rfl rfl (by omega)) rfl ?_
         refine TrQ.q (QS.idxRow rfl rfl (by repeat constructor) Try.underlying34 Try.sizeOf22 (by rfl) (by omega)) rfl ?_
         refine TrQ.q (QS.elR1 rfl (by repeat constructor) Try.isAgg22 (by omega) (by rfl)) rfl ?_
         refine TrQ.q (QS.move rfl) rfl ?_
         refine TrQ.q (QS.move rfl) rfl ?_
         refine TrQ.q (QS.idxRowN rfl rfl (by repeat constructor) Try.underlying34 Try.sizeOf22 (by rfl) (by omega)) rfl ?_
         refine TrQ.q (QS.elR1 rfl (by repeat constructor) Try.isAgg22 (by omega) (by rfl)) rfl ?_
         refine TrQ.q (QS.idxRowN rfl rfl (by repeat constructor) Try.underlying34 Try.sizeOf22 (by rfl) (by omega)) rfl ?_
         refine TrQ.nil ?_
         refine Tr.storeEl (l := c3.toList) (i := y) (c3.toList.getD (((y : Int) - 1).toNat) default) rfl rfl Try.sizeOf22 (by repeat constructor) (by (try simp only [List.length_set]); omega) (by rfl) rfl ?_
         have hls11 : (List.set c3.toList (y) (c3.toList.getD (((y : Int) - 1).toNat) default)).length = (c3.toList).length := List.length_set
         refine Tr.q (QS.idxRow rfl rfl (by repeat constructor) Try.underlying34 Try.sizeOf22 (by rfl) (by omega)) rfl ?_
         refine Tr.storeEl (l := (c3.toList.set (y) (c3.toList.getD (((y : Int) - 1).toNat) default))) (i := ((y : Int) - 1).toNat) (c3.toList.getD (y) default) rfl rfl Try.sizeOf22 (by repeat constructor) (by (try simp only [List.length_set]); omega) (by rfl) rfl ?_
         have hls12 : (List.set (c3.toList.set (y) (c3.toList.getD (((y : Int) - 1).toNat) default)) (((y : Int) - 1).toNat) (c3.toList.getD (y) default)).length = ((c3.toList.set (y) (c3.toList.getD (((y : Int) - 1).toNat) default))).length := List.length_set
         refine Tr.nil (Tr.inN (Tr.thenN (Tr.region ?_)))
         refine Tr.q (QS.move rfl) rfl ?_
         refine Tr.q (QS.subI rfl rfl (by omega)) rfl ?_
         refine Tr.q (QS.assign rfl) rfl ?_
         refine Tr.nil (Tr.thenN ?_)
         rw [ey.resolve_right (by omega), bang, bang, set_swp]
         apply Tr.again (y - 1, _)
         ·exact rfl
         ·exact (.cons (by first | rfl | exact lookI rfl (by omega) | exact lookI rfl (by simp) | exact lookB rfl (by simp)) Front.nil)
         ·exact SubX.dropN 33 (by kernel_rfl) rfl
         ·exact (by repeat' constructor)
         ·exact ⟨by omega, by rw [swpW]; exact hy2, by rw [← hy3]; exact (sd_go (by omega) (by have e := ey.resolve_right (by omega); rw [← bang, ← bang, ← e]; assumption)).symm⟩
         ·exact (by (try dsimp only); omega)
       ·try simp only [bs] at h9
        refine Tr.exit ?_
        refine Tr.thenE (Tr.thenE (Tr.inHit (Tr.thenN ?_)))
        apply Tr.joined c3
        ·exact rfl
        ·exact Front.nil
        ·exact SubX.dropN 10 (by kernel_rfl) rfl
        ·exact (by repeat' constructor)
        ·exact ⟨hy2, by rw [if_pos (by omega), ← hy3]; exact (sd_stop (by first | exact .inl (by omega) | exact .inr (by have e := ey.resolve_right (by omega); rw [← bang, ← bang, ← e]; assumption))).symm⟩
      ·try simp only [bs] at h8
       refine Tr.skip (Tr.thenN ?_)
       apply Tr.joined _
       ·exact rfl
       ·exact Front.nil
       ·exact SubX.dropN 4 (by kernel_rfl) rfl
       ·exact (by repeat' constructor)
       ·exact ⟨by rw [swpW]; exact hk2, by rw [if_neg (by omega)]⟩
     ·skip
      replace hi : d3.size = d.size ∧ d3 = if x - a ≥ 2 then shiftDown ltW (x - 1) (swp cur x (x - 1)) else swp cur x (x - 1) := hi
      change Tr _ _ [rowE V 22 encU32 d3.toList] ([] ++ _) _
      have hd3 := hi
      have hl3 : d3.toList.length = d.size := by rw [Array.length_toList]; exact hi.1
      refine Tr.seq (Tr.region ?_)
      refine Tr.q (QS.move rfl) rfl ?_
      refine Tr.q (QS.move rfl) rfl ?_
      refine Tr.q (QS.subI rfl rfl (by omega)) rfl ?_
      refine Tr.q (QS.geq rfl rfl) rfl ?_
      refine Tr.nil (Tr.thenN ?_)
      refine Tr.cond rfl (fun h13 => ?_) (fun h13 => ?_)
      ·try simp only [bs] at h13
       refine Tr.seq (Tr.region ?_)
       refine Tr.q (QS.move rfl) rfl ?_
       refine Tr.q (QS.addI rfl rfl (by omega)) rfl ?_
       refine Tr.q (QS.assign rfl) rfl ?_
       refine Tr.nil (Tr.thenN (Tr.block ?_))
       refine Tr.loop (ι := Nat × Array UInt32) (fun ⟨z, c4⟩ => x < z ∧ c4.size = d.size ∧ shiftUp ltW b z c4 = shiftUp ltW b (x + 1) d3) (fun _ => _) (fun ⟨z, c4⟩ => [rowE V 22 encU32 c4.toList]) (fun ⟨z, c4⟩ => [(10, .int .i64 (z : Nat))]) (fun ⟨z, c4⟩ => b - z) (x + 1, d3) ⟨by omega, hd3.1, rfl⟩ (.cons (by first | rfl | exact lookI rfl (by omega) | exact lookI rfl (by simp) | exact lookB rfl (by simp)) Front.nil) (by repeat' constructor) rfl (fun i hi m hm => ?_)
       obtain ⟨z, c4⟩ := i
       replace hi : x < z ∧ c4.size = d.size ∧ shiftUp ltW b z c4 = shiftUp ltW b (x + 1) d3 := hi
       replace hm : m = b - z := hm
       change Tr _ _ [rowE V 22 encU32 c4.toList] ([(10, .int .i64 (z : Nat))] ++ _) _
       obtain ⟨hz1, hz2, hz3⟩ := hi
       have ez : ((z : Int) - 1).toNat = z - 1 := by omega
       have hc4 : c4.toList.length = d.size := by rw [Array.length_toList]; exact hz2
       refine Tr.seq (Tr.seq (Tr.region ?_))
       refine Tr.q (QS.move rfl) rfl ?_
       refine Tr.q (QS.move rfl) rfl ?_
       refine Tr.q (QS.lss rfl rfl) rfl ?_
       refine Tr.nil (Tr.thenN ?_)
       refine Tr.cond rfl (fun h14 => ?_) (fun h14 => ?_)
       ·try simp only [bs] at h14
        refine Tr.skip (Tr.thenN (Tr.seq (Tr.block (Tr.seq (Tr.seq ?_)))))
        refine Tr.regionQ HLF.mixed (by kernel_rfl) ?_
        refine TrQ.q (QS.move rfl) rfl ?_
        refine TrQ.q (QS.move rfl) rfl ?_
        refine TrQ.q (QS.idxRowN rfl rfl (by repeat constructor) Try.underlying34 Try.sizeOf22 (by rfl) (by omega)) rfl ?_
        refine TrQ.q (QS.elR1 rfl (by repeat constructor) Try.isAgg22 (by omega) (by rfl)) rfl ?_
        refine TrQ.q (QS.move rfl) rfl ?_
        refine TrQ.q (QS.move rfl) rfl ?_
        refine TrQ.q (QS.subI rfl rfl (by omega)) rfl ?_
        refine TrQ.q (QS.idxRow rfl rfl (by repeat constructor) Try.underlying34 Try.sizeOf22 (by rfl) (by omega)) rfl ?_
        refine TrQ.q (QS.elR1 rfl (by repeat constructor) Try.isAgg22 (by omega) (by rfl)) rfl ?_
        refine TrQ.q (QS.call rfl Try.call100 (fun w hw => less_any (c4.toList.getD (z) default) (c4.toList.getD (((z : Int) - 1).toNat) default) w)) rfl ?_
        refine TrQ.q (QS.not rfl) rfl ?_
        refine TrQ.nil ?_
        refine Tr.thenN ?_
        refine Tr.cond rfl (fun h15 => ?_) (fun h15 => ?_)
        ·try simp only [bs] at h15
         refine Tr.exit ?_
         refine Tr.thenE ?_
         refine Tr.inMiss rfl ?_
         refine Tr.thenE (Tr.thenE (Tr.inHit (Tr.inN (Tr.thenN (Tr.region ?_)))))
         refine Tr.q (QS.move rfl) rfl ?_
         refine Tr.q (QS.addI rfl rfl (by omega)) rfl ?_
         refine Tr.q (QS.assign rfl) rfl ?_
         refine Tr.nil (Tr.thenN ?_)
         apply Tr.again (s + 1, x, c4)
         ·exact rfl
         ·exact (.cons (by first | rfl | exact lookI rfl (by omega) | exact lookI rfl (by simp) | exact lookB rfl (by simp)) (.cons (by first | rfl | exact lookI rfl (by omega) | exact lookI rfl (by simp) | exact lookB rfl (by simp)) Front.nil))
         ·exact SubX.dropN 59 (by kernel_rfl) rfl
         ·exact (by repeat' constructor)
         ·exact ⟨by omega, hz2, by rw [← hk3, show 5 - s = (5 - (s + 1)) + 1 by omega]; exact (own_pi_go hX (by omega) (by omega) hd3.2 (by rw [if_pos (by omega), ← hz3]; exact (su_stop (by first | exact .inl (by omega) | exact .inr (by rw [← bang, ← bang, ← ez]; assumption))).symm)).symm⟩
         ·exact (by (try dsimp only); omega)
        ·try simp only [bs] at h15
         refine Tr.skip (Tr.thenN ?_)
         refine Tr.regionT 5 15 HLF.mixed (by kernel_rfl) (panicIn (panicThen (panicThen (panicIn (panicIn (panicThen (panicThen (panicIn (panicThen panicBody))))))))) ?_
         refine TrQ.pureMove rfl rfl ?_
         refine TrQ.pureMove rfl rfl ?_
         refine TrQ.pureMove rfl rfl ?_
         refine TrQ.pureMove rfl rfl ?_
         refine TrQ.pureQ (fun _ => QS.subI rfl rfl (by omega)) (by rfl) rfl ?_
         refine TrQ.pureNil ?_
         refine TrQ.q (QS.move rfl) rfl ?_
         refine TrQ.q (QS.move rfl) rfl ?_
         refine TrQ.q (QS.subI rfl rfl (by omega)) rfl ?_
         refine TrQ.q (QS.idxRow rfl rfl (by repeat constructor) Try.underlying34 Try.sizeOf22 (by rfl) (by omega)) rfl ?_
         refine TrQ.q (QS.elR1 rfl (by repeat constructor) Try.isAgg22 (by omega) (by rfl)) rfl ?_
         refine TrQ.q (QS.move rfl) rfl ?_
         refine TrQ.q (QS.move rfl) rfl ?_
         refine TrQ.q (QS.idxRowN rfl rfl (by repeat constructor) Try.underlying34 Try.sizeOf22 (by rfl) (by omega)) rfl ?_
         refine TrQ.q (QS.elR1 rfl (by repeat constructor) Try.isAgg22 (by omega) (by rfl)) rfl ?_
         refine TrQ.q (QS.idxRowN rfl rfl (by repeat constructor) Try.underlying34 Try.sizeOf22 (by rfl) (by omega)) rfl ?_
         refine TrQ.nil ?_
         refine Tr.storeEl (l := c4.toList) (i := z) (c4.toList.getD (((z : Int) - 1).toNat) default) rfl rfl Try.sizeOf22 (by repeat constructor) (by (try simp only [List.length_set]); omega) (by rfl) rfl ?_
         have hls16 : (List.set c4.toList (z) (c4.toList.getD (((z : Int) - 1).toNat) default)).length = (c4.toList).length := List.length_set
         refine Tr.q (QS.idxRow rfl rfl (by repeat constructor) Try.underlying34 Try.sizeOf22 (by rfl) (by omega)) rfl ?_
         refine Tr.storeEl (l := (c4.toList.set (z) (c4.toList.getD (((z : Int) - 1).toNat) default))) (i := ((z : Int) - 1).toNat) (c4.toList.getD (z) default) rfl rfl Try.sizeOf22 (by repeat constructor) (by (try simp only [List.length_set]); omega) (by rfl) rfl ?_
         have hls17 : (List.set (c4.toList.set (z) (c4.toList.getD (((z : Int) - 1).toNat) default)) (((z : Int) - 1).toNat) (c4.toList.getD (z) default)).length = ((c4.toList.set (z) (c4.toList.getD (((z : Int) - 1).toNat) default))).length := List.length_set
         refine Tr.nil (Tr.inN (Tr.thenN (Tr.region ?_)))
         refine Tr.q (QS.move rfl) rfl ?_
         refine Tr.q (QS.addI rfl rfl (by omega)) rfl ?_
         refine Tr.q (QS.assign rfl) rfl ?_
         refine Tr.nil (Tr.thenN ?_)
         rw [ez, bang, bang, set_swp]
         apply Tr.again (z + 1, _)
         ·exact rfl
         ·exact (.cons (by first | rfl | exact lookI rfl (by omega) | exact lookI rfl (by simp) | exact lookB rfl (by simp)) Front.nil)
         ·exact SubX.dropN 34 (by kernel_rfl) rfl
         ·exact (by repeat' constructor)
         ·exact ⟨by omega, by rw [swpW]; exact hz2, by rw [← hz3]; exact (su_go (by omega) (by rw [← bang, ← bang, ← ez]; assumption)).symm⟩
         ·exact (by (try dsimp only); omega)
       ·try simp only [bs] at h14
        refine Tr.exit ?_
        refine Tr.thenE (Tr.thenE (Tr.inHit (Tr.inN (Tr.thenN (Tr.region ?_)))))
        refine Tr.q (QS.move rfl) rfl ?_
        refine Tr.q (QS.addI rfl rfl (by omega)) rfl ?_
        refine Tr.q (QS.assign rfl) rfl ?_
        refine Tr.nil (Tr.thenN ?_)
        apply Tr.again (s + 1, x, c4)
        ·exact rfl
        ·exact (.cons (by first | rfl | exact lookI rfl (by omega) | exact lookI rfl (by simp) | exact lookB rfl (by simp)) (.cons (by first | rfl | exact lookI rfl (by omega) | exact lookI rfl (by simp) | exact lookB rfl (by simp)) Front.nil))
        ·exact SubX.dropN 48 (by kernel_rfl) rfl
        ·exact (by repeat' constructor)
        ·exact ⟨by omega, hz2, by rw [← hk3, show 5 - s = (5 - (s + 1)) + 1 by omega]; exact (own_pi_go hX (by omega) (by omega) hd3.2 (by rw [if_pos (by omega), ← hz3]; exact (su_stop (by first | exact .inl (by omega) | exact .inr (by rw [← bang, ← bang, ← ez]; assumption))).symm)).symm⟩
        ·exact (by (try dsimp only); omega)
      ·try simp only [bs] at h13
       refine Tr.skip (Tr.inN (Tr.thenN (Tr.region ?_)))
       refine Tr.q (QS.move rfl) rfl ?_
       refine Tr.q (QS.addI rfl rfl (by omega)) rfl ?_
       refine Tr.q (QS.assign rfl) rfl ?_
       refine Tr.nil (Tr.thenN ?_)
       apply Tr.again (s + 1, x, d3)
       ·exact rfl
       ·exact (.cons (by first | rfl | exact lookI rfl (by omega) | exact lookI rfl (by simp) | exact lookB rfl (by simp)) (.cons (by first | rfl | exact lookI rfl (by omega) | exact lookI rfl (by simp) | exact lookB rfl (by simp)) Front.nil))
       ·exact SubX.dropN 41 (by kernel_rfl) rfl
       ·exact (by repeat' constructor)
       ·exact ⟨by omega, hd3.1, by rw [← hk3, show 5 - s = (5 - (s + 1)) + 1 by omega]; exact (own_pi_go hX (by omega) (by omega) hd3.2 (by rw [if_neg (by omega)])).symm⟩
       ·exact (by (try dsimp only); omega)
 ·try simp only [bs] at h1
  refine Tr.exit ?_
  refine Tr.thenE (Tr.thenE (Tr.inHit (Tr.thenN (Tr.seq (Tr.region ?_)))))
  refine Tr.q (QS.assign rfl) rfl ?_
  refine Tr.nil (Tr.thenN (Tr.ret ?_))
  refine Tr.ret1 Try.results99 rfl (fun w' hw => ?_)
  obtain rfl : s = 5 := by omega
  have hk4 : (cur, false) = partialInsertionSort ltW d a b := hk3
  exact ⟨by rw [← hk4], by rw [← hk4]; exact HpOK.mutOwn hw (.head _) rfl⟩
end Go.Proofs.Ytpeaodkfbjenpaa
namespace Go.HL
open Go Go.RowKit Go.Sort
section
variable {P : Program} {N : Nat} {F : Bg} {L : List Ent} {M : Fr} {dst : Option Tmp} {ty : TypeId} {pos : String} {after : Array Edge} {g : Option (Nat × Bool)}
theorem QS.nilCheck {x : Operand} {a : Addr} (hx : opv M x = some (.pointer (some a))) : QS P N F L M ⟨dst, .nilCheck x, ty, pos, after, g⟩ (.pointer (some a)) :=
  QS.of_run fun A w ha _ => by simp [execOp, ha.eval hx]
theorem QS.xor64 {m n : UInt64} {x y : Operand} {t u : TypeId} (hx : opv M x = some (.int .u64 m.toNat)) (hy : opv M y = some (.int .u64 n.toNat)) : QS P N F L M ⟨dst, .binOp .xor t x y u, ty, pos, after, g⟩ (.int .u64 (m ^^^ n).toNat) := by
  have := QS.xor (P := P) (N := N) (F := F) (L := L) (dst := dst) (ty := ty) (pos := pos) (after := after) (g := g) (t := t) (u := u) hx hy
  have e : IntKind.u64.wrap ((BitVec.ofInt IntKind.u64.bits m.toNat ^^^ BitVec.ofInt IntKind.u64.bits n.toNat).toNat : Int) = ((m ^^^ n).toNat : Int) := by
    have h1 : BitVec.ofInt 64 (m.toNat : Int) = m.toBitVec := by simp
    have h2 : BitVec.ofInt 64 (n.toNat : Int) = n.toBitVec := by simp
    show IntKind.u64.wrap ((BitVec.ofInt 64 m.toNat ^^^ BitVec.ofInt 64 n.toNat).toNat : Int) = _
    rw [h1, h2, IntWalk.u64_in]
    · rfl
    · have := (m ^^^ n).toNat_lt
      show 0 ≤ ((m ^^^ n).toNat : Int) ∧ ((m ^^^ n).toNat : Int) ≤ _
      omega
  rwa [e] at this
theorem QS.shl64 {m : UInt64} {x y : Operand} {t u : TypeId} {k' : IntKind} (c : UInt64) (hx : opv M x = some (.int .u64 m.toNat)) (hy : opv M y = some (.int k' (c.toNat : Int))) (hc : c.toNat < 64) : QS P N F L M ⟨dst, .binOp .shl t x y u, ty, pos, after, g⟩ (.int .u64 (m <<< c).toNat) := by
  have := QS.shl (P := P) (N := N) (F := F) (L := L) (dst := dst) (ty := ty) (pos := pos) (after := after) (g := g) (t := t) (u := u) hx hy (by omega)
  have e : IntKind.u64.wrap ((m.toNat : Int) * 2 ^ (min (c.toNat : Int).toNat IntKind.u64.bits)) = ((m <<< c).toNat : Int) := by
    rw [IntKind.wrap_u64, UInt64.toNat_shiftLeft, Int.toNat_natCast, Nat.min_eq_left (by show c.toNat ≤ 64; omega), Nat.mod_eq_of_lt hc, Nat.shiftLeft_eq, Int.natCast_emod, Int.natCast_mul, Int.natCast_pow]
    rfl
  rwa [e] at this
theorem QS.shr64 {m : UInt64} {x y : Operand} {t u : TypeId} {k' : IntKind} (c : UInt64) (hx : opv M x = some (.int .u64 m.toNat)) (hy : opv M y = some (.int k' (c.toNat : Int))) (hc : c.toNat < 64) : QS P N F L M ⟨dst, .binOp .shr t x y u, ty, pos, after, g⟩ (.int .u64 (m >>> c).toNat) := by
  have := QS.shr (P := P) (N := N) (F := F) (L := L) (dst := dst) (ty := ty) (pos := pos) (after := after) (g := g) (t := t) (u := u) hx hy (by omega)
  have e : (m.toNat : Int).fdiv (2 ^ (min (c.toNat : Int).toNat IntKind.u64.bits)) = ((m >>> c).toNat : Int) := by
    rw [UInt64.toNat_shiftRight, Int.toNat_natCast, Nat.min_eq_left (by show c.toNat ≤ 64; omega), Nat.mod_eq_of_lt hc, Nat.shiftRight_eq_div_pow, Int.fdiv_eq_ediv_of_nonneg _ (by
      have : (0 : Int) < 2 ^ c.toNat := Int.pow_pos (by decide)
      omega)]
    rw [Int.natCast_ediv, Int.natCast_pow]; rfl
  rwa [e] at this
theorem QS.shrN {m : Nat} {x y : Operand} {t u : TypeId} {k' : IntKind} (c : Nat) (hx : opv M x = some (.int .u64 (m : Int))) (hy : opv M y = some (.int k' (c : Int))) (hc : c ≤ 64) : QS P N F L M ⟨dst, .binOp .shr t x y u, ty, pos, after, g⟩ (.int .u64 ((m / 2 ^ c : Nat) : Int)) := by
  have := QS.shr (P := P) (N := N) (F := F) (L := L) (dst := dst) (ty := ty) (pos := pos) (after := after) (g := g) (t := t) (u := u) hx hy (by omega)
  have e : (m : Int).fdiv (2 ^ (min (c : Int).toNat IntKind.u64.bits)) = ((m / 2 ^ c : Nat) : Int) := by
    rw [Int.toNat_natCast, Nat.min_eq_left (show c ≤ IntKind.u64.bits from hc), Int.fdiv_eq_ediv_of_nonneg _ (by
      have : (0 : Int) < 2 ^ c := Int.pow_pos (by decide)
      omega), Int.natCast_ediv, Int.natCast_pow]; rfl
  rwa [e] at this
theorem QS.shlOne {x y : Operand} {t u : TypeId} {k' : IntKind} {c : Nat} (hx : opv M x = some (.int .u64 1)) (hy : opv M y = some (.int k' (c : Int))) (hc : c < 64) : QS P N F L M ⟨dst, .binOp .shl t x y u, ty, pos, after, g⟩ (.int .u64 ((1 <<< c : Nat) : Int)) := by
  have := QS.shl (P := P) (N := N) (F := F) (L := L) (dst := dst) (ty := ty) (pos := pos) (after := after) (g := g) (t := t) (u := u) hx hy (by omega)
  have e : IntKind.u64.wrap ((1 : Int) * 2 ^ (min (c : Int).toNat IntKind.u64.bits)) = ((1 <<< c : Nat) : Int) := by
    have h1 : 2 ^ c < 2 ^ 64 := Nat.pow_lt_pow_right (by decide) hc
    rw [Int.toNat_natCast, Nat.min_eq_left (by show c ≤ 64; omega), Int.one_mul, Nat.one_shiftLeft, IntWalk.u64_in]
    · rw [Int.natCast_pow]; rfl
    · have h2 : ((2 : Int) ^ c) = ((2 ^ c : Nat) : Int) := by rw [Int.natCast_pow]; rfl
      rw [h2]
      generalize 2 ^ c = z at h1
      have h1' : z < 18446744073709551616 := h1
      omega
  rwa [e] at this
theorem QS.and64 {m n : Nat} {x y : Operand} {t u : TypeId} (hx : opv M x = some (.int .u64 (m : Int))) (hy : opv M y = some (.int .u64 (n : Int))) (hm : m < 18446744073709551616) (hn : n < 18446744073709551616) : QS P N F L M ⟨dst, .binOp .and t x y u, ty, pos, after, g⟩ (.int .u64 ((m &&& n : Nat) : Int)) := by
  have := QS.and (P := P) (N := N) (F := F) (L := L) (dst := dst) (ty := ty) (pos := pos) (after := after) (g := g) (t := t) (u := u) hx hy
  have e : IntKind.u64.wrap ((BitVec.ofInt IntKind.u64.bits (m : Int) &&& BitVec.ofInt IntKind.u64.bits (n : Int)).toNat : Int) = ((m &&& n : Nat) : Int) := by
    have h1 : (BitVec.ofInt 64 (m : Int)).toNat = m := by rw [BitVec.toNat_ofInt]; omega
    have h2 : (BitVec.ofInt 64 (n : Int)).toNat = n := by rw [BitVec.toNat_ofInt]; omega
    show IntKind.u64.wrap ((BitVec.ofInt 64 (m : Int) &&& BitVec.ofInt 64 (n : Int)).toNat : Int) = _
    rw [BitVec.toNat_and, h1, h2, IntWalk.u64_in]
    have : m &&& n ≤ n := Nat.and_le_right
    omega
  rwa [e] at this
theorem QS.cvtTo64 {x : Operand} {s d : TypeId} {ds : TypeDesc} {k : IntKind} {m : Int} (n : Nat) (hx : opv M x = some (.int k m)) (hs : P.underlying s = some ds) (hd : P.underlying d = some (.int .u64)) (hm : m = (n : Int)) (hn : n < 18446744073709551616) :
    QS P N F L M ⟨dst, .convert s d x, ty, pos, after, g⟩ (.int .u64 ((UInt64.ofNat n).toNat : Int)) := by
  have h := QS.cvt (N := N) (F := F) (L := L) (dst := dst) (ty := ty) (pos := pos) (after := after) (g := g) hx hs hd
  rw [hm, IntWalk.u64_in _ (by omega)] at h
  rwa [UInt64.toNat_ofNat', Nat.mod_eq_of_lt hn]
theorem QS.subUN {m n : Nat} {x y : Operand} {t u : TypeId} (hx : opv M x = some (.int .u64 (m : Int))) (hy : opv M y = some (.int .u64 (n : Int))) (h : n ≤ m) (hm : m < 18446744073709551616) : QS P N F L M ⟨dst, .binOp .sub t x y u, ty, pos, after, g⟩ (.int .u64 ((m - n : Nat) : Int)) := by
  have := QS.subU (P := P) (N := N) (F := F) (L := L) (dst := dst) (ty := ty) (pos := pos) (after := after) (g := g) (t := t) (u := u) hx hy (by omega)
  rwa [show (m : Int) - (n : Int) = ((m - n : Nat) : Int) by omega] at this
def tab8 : List UInt8 := (List.range 256).map fun i => UInt8.ofNat (bitsLen i)
theorem bitsLen_8 {i : Nat} (h : i < 256) : bitsLen i ≤ 8 := (bitsLen_le_iff i 8).2 h
theorem QS.lenTab {x y : Operand} {t : TypeId} {s : ByteArray} {i : Nat} (hx : opv M x = some (.string s)) (hy : opv M y = some (.int .u8 (i : Int))) (ht : P.underlying t = some .string) (hs : s.data.toList = tab8) (hi : i < 256) :
    QS P N F L M ⟨dst, .index t x y, ty, pos, after, g⟩ (.int .u8 ((bitsLen i : Nat) : Int)) := by
  have hz : s.size = 256 := by
    have : s.data.toList.length = 256 := by rw [hs]; simp [tab8]
    rw [← this, Array.length_toList]; rfl
  have := QS.strIdx (P := P) (N := N) (F := F) (L := L) (dst := dst) (ty := ty) (pos := pos) (after := after) (g := g) hx hy ht (by omega)
  have e : (s.data.toList.getD (i : Int).toNat 0).toNat = bitsLen i := by
    rw [hs, Int.toNat_natCast, List.getD_eq_getElem?_getD]
    have h8 := bitsLen_8 hi
    simp [tab8, hi]
    omega
  rwa [e] at this
end
/-- The rows' lengths are those of the slice. -/
theorem rowE.len {α β : Type} {V : Value} {T T' : TypeId} {E : Enc α} {G : Enc β} {l : List α} {l' : List β} {w w' : World} (h : (rowE V T E l).holds w) (h' : (rowE V T' G l').holds w') : l'.length = l.length := by
  obtain ⟨a, c, e, _⟩ := (rowE.sl h).shape
  obtain ⟨a', c', e', _⟩ := (rowE.sl h').shape
  rw [e] at e'
  injection e' with _ e2
  exact e2.symm
theorem Tr.rowLen {α β : Type} {N : Nat} {F : Bg} {L : List Ent} {M : Fr} {V : Value} {T T' : TypeId} {E : Enc α} {G : Enc β} {l0 : List α} {l : List β} {w : World} {X : Act → World → Prop} (h : (rowE V T E l0).holds w) (hm : rowE V T' G l ∈ L) (K : l.length = l0.length → Tr N F L M X) : Tr N F L M X :=
  fun a w' ha hw => K (rowE.len h (hw.ent _ hm)) a w' ha hw
theorem HpOK.own {F : Bg} {L Lo R : List Ent} {w : World} (h : HpOK F L w) (hs : Split L Lo R) : OwnAt w Lo := (h.perm hs.perm.symm).ownAt.left
theorem OwnAt.row {α : Type} {V : Value} {T : TypeId} {E : Enc α} {l : List α} {L : List Ent} {w : World} (h : OwnAt w L) (hm : rowE V T E l ∈ L) : (rowE V T E l).holds w := h.ent _ hm
theorem bitsLen_shr {x c : Nat} (h : 2 ^ c ≤ x) : bitsLen x = c + bitsLen (x / 2 ^ c) := by
  have key : ∀ k, bitsLen x ≤ k ↔ c + bitsLen (x / 2 ^ c) ≤ k := fun k => by
    rw [bitsLen_le_iff]
    rcases Nat.lt_or_ge k c with hk | hk
    · have : 2 ^ k < 2 ^ c := Nat.pow_lt_pow_right (by decide) hk
      constructor <;> intro h' <;> omega
    · obtain ⟨j, rfl⟩ : ∃ j, k = c + j := ⟨k - c, by omega⟩
      rw [show (c + bitsLen (x / 2 ^ c) ≤ c + j) ↔ bitsLen (x / 2 ^ c) ≤ j by omega, bitsLen_le_iff, Nat.div_lt_iff_lt_mul (Nat.two_pow_pos _), Nat.pow_add, Nat.mul_comm]
  exact Nat.le_antisymm ((key _).2 (Nat.le_refl _)) ((key _).1 (Nat.le_refl _))
theorem len16 {x : Nat} (h : 65536 ≤ x) : bitsLen x = 16 + bitsLen (x / 2 ^ 16) := bitsLen_shr h
theorem len8 {x : Nat} (h : 256 ≤ x) : bitsLen x = 8 + bitsLen (x / 2 ^ 8) := bitsLen_shr h
theorem order2_bd {d : Array UInt32} {a b s : Nat} {i : Nat × Nat × Nat} (hi : i = order2 ltW d a b s) {n : Nat} (ha : a < n) (hb : b < n) : i.1 < n ∧ i.2.1 < n ∧ i.2.2 ≤ s + 1 := by
  subst hi
  refine ⟨?_, ?_, order2_count ltW d a b s⟩ <;> unfold order2 <;> split <;> assumption
theorem median_bd {d : Array UInt32} {a b c s : Nat} {i : Nat × Nat} (hi : i = median ltW d a b c s) {n : Nat} (ha : a < n) (hb : b < n) (hc : c < n) : i.1 < n ∧ i.2 ≤ s + 3 := by
  subst hi
  refine ⟨?_, median_count ltW d a b c s⟩
  rcases median_mem ltW d a b c s with h | h | h <;> rw [h] <;> assumption
theorem adj_bd {d : Array UInt32} {a s : Nat} {i : Nat × Nat} (hi : i = medianAdjacent ltW d a s) {n : Nat} (ha : a + 1 < n) : i.1 < n ∧ i.2 ≤ s + 3 := median_bd hi (by omega) (by omega) ha
theorem raw_far {d : Array UInt32} {a b : Nat} {i1 i2 i3 i4 : Nat × Nat} (h : 50 ≤ b - a) (e1 : i1 = medianAdjacent ltW d (a + (b - a) / 4 * 1) 0) (e2 : i2 = medianAdjacent ltW d (a + (b - a) / 4 * 2) i1.2) (e3 : i3 = medianAdjacent ltW d (a + (b - a) / 4 * 3) i2.2)
    (e4 : i4 = median ltW d i1.1 i2.1 i3.1 i3.2) : i4 = rawPivot ltW d a b := by
  subst e1 e2 e3 e4
  unfold rawPivot
  rw [if_pos (by omega), if_pos (by omega)]
theorem raw_mid {d : Array UInt32} {a b : Nat} {i4 : Nat × Nat} (h8 : 8 ≤ b - a) (h : b - a < 50) (e4 : i4 = median ltW d (a + (b - a) / 4 * 1) (a + (b - a) / 4 * 2) (a + (b - a) / 4 * 3) 0) : i4 = rawPivot ltW d a b := by
  subst e4
  unfold rawPivot
  rw [if_pos (by omega), if_neg (by omega)]
theorem raw_near {d : Array UInt32} {a b : Nat} (h8 : b - a < 8) : ((a + (b - a) / 4 * 2, 0) : Nat × Nat) = rawPivot ltW d a b := by
  unfold rawPivot
  rw [if_neg (by omega)]
def bsteps (a len m i0 : Nat) : Nat → UInt64 × Array UInt32 → UInt64 × Array UInt32
  | 0, st => st
  | t + 1, st => breakStep a len m (bsteps a len m i0 t st) (i0 + t)
theorem break_go {d : Array UInt32} {a b : Nat} (h : 8 ≤ b - a) : breakPatterns d a b = (bsteps a (b - a) (1 <<< bitsLen (b - a)) (a + (b - a) / 4 * 2 - 1) 3 (UInt64.ofNat (b - a), d)).2 := by
  unfold breakPatterns
  simp only []
  rw [if_pos h]; rfl
theorem break_no {d : Array UInt32} {a b : Nat} (h : b - a < 8) : breakPatterns d a b = d := by
  unfold breakPatterns
  simp only []
  rw [if_neg (by omega)]
theorem bstep_eq {a len m i0 t : Nat} {st : UInt64 × Array UInt32} {r : UInt64} {cur : Array UInt32} {o : Nat} (h : bsteps a len m i0 t st = (r, cur)) (ho : o = if len ≤ ((xorNext r).toNat &&& (m - 1)) then ((xorNext r).toNat &&& (m - 1)) - len else ((xorNext r).toNat &&& (m - 1))) :
    bsteps a len m i0 (t + 1) st = (xorNext r, swp cur (i0 + t) (a + o)) := by
  subst ho
  show breakStep a len m (bsteps a len m i0 t st) (i0 + t) = _
  rw [h]; rfl
theorem mod_bd {n : Nat} (h : 0 < n) : 1 ≤ 1 <<< bitsLen n ∧ 1 <<< bitsLen n ≤ 2 * n := by
  rw [Nat.one_shiftLeft]
  exact ⟨Nat.two_pow_pos _, two_pow_bitsLen_le h⟩
section
variable {d : Array UInt32} {a b limit : Nat} {wb wp : Bool}
theorem own_pdq_small (h : b - a ≤ 12) : pdq ltW d a b limit wb wp = insertionSort ltW d a b := by rw [pdq, if_pos h]
theorem own_pdq_heap (h : ¬ b - a ≤ 12) (h0 : limit = 0) : pdq ltW d a b limit wb wp = heapSort ltW d a b := by rw [pdq, if_neg h, if_pos h0]
/-- A round up to the partition: what is known then. -/
structure Rnd (d : Array UInt32) (a b limit : Nat) (wb wp : Bool) (l1 pv : Nat) (d3 : Array UInt32) : Prop where
  done : ∃ (d1 d2 : Array UInt32) (c : Nat × Hint) (hint : Hint), d1 = (if !wb then breakPatterns d a b else d) ∧ l1 = (if !wb then limit - 1 else limit) ∧ c = choosePivot ltW d1 a b ∧
    d2 = (if c.2 = .decreasing then reverseRange d1 a b else d1) ∧ pv = (if c.2 = .decreasing then (b - 1) - (c.1 - a) else c.1) ∧ hint = (if c.2 = .decreasing then Hint.increasing else c.2) ∧
    (if wb && wp && hint = .increasing then partialInsertionSort ltW d2 a b else (d2, false)) = (d3, false)
theorem own_pdq_done {d1 d2 d3 : Array UInt32} {c : Nat × Hint} {hint : Hint} (h : ¬ b - a ≤ 12) (h0 : ¬ limit = 0) (e1 : d1 = (if !wb then breakPatterns d a b else d)) (ec : c = choosePivot ltW d1 a b)
    (e3 : d2 = (if c.2 = .decreasing then reverseRange d1 a b else d1)) (e5 : hint = (if c.2 = .decreasing then Hint.increasing else c.2)) (e6 : (if wb && wp && hint = .increasing then partialInsertionSort ltW d2 a b else (d2, false)) = (d3, true)) :
    pdq ltW d a b limit wb wp = d3 := by
  subst e1 ec e3 e5
  rw [pdq, if_neg h, if_neg h0]
  simp only [e6, if_true]
theorem pdq_open {l1 pv : Nat} {d3 : Array UInt32} (h : ¬ b - a ≤ 12) (h0 : ¬ limit = 0) (r : Rnd d a b limit wb wp l1 pv d3) :
    pdq ltW d a b limit wb wp = if a > 0 && !ltW d3[a - 1]! d3[pv]! then
      (match partitionEqual ltW d3 a b pv with | (mid, d4) => if _h : a < mid ∧ mid ≤ b then pdq ltW d4 mid b l1 wb wp else d4)
    else
      (match partition ltW d3 a b pv with
      | (mid, ap, d4) =>
        if _h : a ≤ mid ∧ mid < b then
          if mid - a < b - mid then pdq ltW (pdq ltW d4 a mid l1 true true) (mid + 1) b l1 (decide (mid - a ≥ (b - a) / 8)) ap
          else pdq ltW (pdq ltW d4 (mid + 1) b l1 true true) a mid l1 (decide (b - mid ≥ (b - a) / 8)) ap
        else d4) := by
  obtain ⟨d1, d2, c, hint, e1, e2, ec, e3, e4, e5, e6⟩ := r.done
  subst e1 ec e3 e5 e2 e4
  rw [pdq, if_neg h, if_neg h0]
  simp only [e6, Bool.false_eq_true, if_false]
theorem pdq_eqv {l1 pv mid : Nat} {d3 d4 : Array UInt32} (h : ¬ b - a ≤ 12) (h0 : ¬ limit = 0) (r : Rnd d a b limit wb wp l1 pv d3) (ha : 0 < a) (hl : ltW d3[a - 1]! d3[pv]! = false) (he : partitionEqual ltW d3 a b pv = (mid, d4)) (hm : a < mid ∧ mid ≤ b) :
    pdq ltW d a b limit wb wp = pdq ltW d4 mid b l1 wb wp := by
  rw [pdq_open h h0 r, if_pos (by simp [ha, hl]), he]
  simp only []
  rw [dif_pos hm]
theorem own_pdq_left {l1 pv mid : Nat} {d3 d4 : Array UInt32} {ap : Bool} (h : ¬ b - a ≤ 12) (h0 : ¬ limit = 0) (r : Rnd d a b limit wb wp l1 pv d3) (hl : a = 0 ∨ ltW d3[a - 1]! d3[pv]! = true) (he : partition ltW d3 a b pv = (mid, ap, d4)) (hm : a ≤ mid ∧ mid < b) (hs : mid - a < b - mid) :
    pdq ltW d a b limit wb wp = pdq ltW (pdq ltW d4 a mid l1 true true) (mid + 1) b l1 (decide (mid - a ≥ (b - a) / 8)) ap := by
  rw [pdq_open h h0 r, if_neg (by simp only [Bool.and_eq_true, decide_eq_true_eq, Bool.not_eq_true']; rintro ⟨q1, q2⟩; rcases hl with q | q; omega; rw [q] at q2; cases q2), he]
  simp only []
  rw [dif_pos hm, if_pos hs]
theorem own_pdq_right {l1 pv mid : Nat} {d3 d4 : Array UInt32} {ap : Bool} (h : ¬ b - a ≤ 12) (h0 : ¬ limit = 0) (r : Rnd d a b limit wb wp l1 pv d3) (hl : a = 0 ∨ ltW d3[a - 1]! d3[pv]! = true) (he : partition ltW d3 a b pv = (mid, ap, d4)) (hm : a ≤ mid ∧ mid < b) (hs : ¬ mid - a < b - mid) :
    pdq ltW d a b limit wb wp = pdq ltW (pdq ltW d4 (mid + 1) b l1 true true) a mid l1 (decide (b - mid ≥ (b - a) / 8)) ap := by
  rw [pdq_open h h0 r, if_neg (by simp only [Bool.and_eq_true, decide_eq_true_eq, Bool.not_eq_true']; rintro ⟨q1, q2⟩; rcases hl with q | q; omega; rw [q] at q2; cases q2), he]
  simp only []
  rw [dif_pos hm, if_neg hs]
end
theorem partEq_rng {d : Array UInt32} {a b pv : Nat} (h : a + 1 < b) (hb : b ≤ d.size) : a < (partitionEqual ltW d a b pv).1 ∧ (partitionEqual ltW d a b pv).1 ≤ b := by
  have := partEqLoop_spec (lt := ltW) a b _ (a + 1) (b - 1) (swp d a pv) (Nat.le_refl _) (by omega) (by omega) (by omega) (by rw [swpW]; exact hb) (fun t _ _ => by omega) (fun t _ _ => by omega)
  exact ⟨this.1, this.2.1⟩
theorem part_rng {d : Array UInt32} {a b pv : Nat} (h1 : a ≤ pv) (h2 : pv < b) (hb : b ≤ d.size) : a ≤ (partition ltW d a b pv).1 ∧ (partition ltW d a b pv).1 < b := by
  have := partition_holds (lt := ltW) swo_ltW d a b pv h1 h2 hb
  exact ⟨this.1, this.2.1⟩
theorem hintCode_dec (h : Hint) : hintCode h = 2 ↔ h = .decreasing := by cases h <;> simp [hintCode]
theorem hintCode_inc (h : Hint) : hintCode h = 1 ↔ h = .increasing := by cases h <;> simp [hintCode]
theorem pi_yes {wb wp : Bool} {hint : Hint} (h : (wb = true ∧ wp = true) ∧ hintCode hint = 1) : (wb && wp && decide (hint = .increasing)) = true := by
  rw [h.1.1, h.1.2, (hintCode_inc hint).1 h.2]; rfl
theorem pi_no {wb wp : Bool} {hint : Hint} (h : (wb = false ∨ wp = false) ∨ ¬ hintCode hint = 1) : ¬ (wb && wp && decide (hint = .increasing)) = true := by
  simp only [Bool.and_eq_true, decide_eq_true_eq]
  rintro ⟨⟨q1, q2⟩, q3⟩
  rcases h with (q | q) | q
  · rw [q1] at q; cases q
  · rw [q2] at q; cases q
  · exact q ((hintCode_inc hint).2 q3)
theorem sort_u32 (d : Array UInt32) : (sort ltW d).toList = d.toList.mergeSort (fun x y => !ltW y x) := by
  have h := sort_sorts ltW swo_ltW d
  exact sorted_unique_holds (lt := ltW) swo_ltW (fun x y h1 h2 => by
    simp only [ltW, decide_eq_false_iff_not, UInt32.lt_iff_toNat_lt] at h1 h2
    exact UInt32.toNat_inj.1 (by omega)) d _ h.1 h.2
end Go.HL
namespace Go.Proofs.Ytpeaodkfbjenpaa
open Go Go.HL Go.RowKit Go.Sort
set_option maxRecDepth 100000 in
set_option maxHeartbeats 2000000 in
theorem len64_u (x : Nat) (hx : x < 4294967296) (w : World) :
  Calls Try.prog 104 #[.int .u64 (x : Nat)] w (fun e w' => e = .returned (.int .i64 (bitsLen x : Nat)) ∧ Ext w w') := by
 refine enter Try.func104 rfl Try.ntmps104 rfl ?_
 refine Tr.seq (Tr.region ?_)
 refine Tr.q (QS.assign rfl) rfl ?_
 refine Tr.nil (Tr.thenN (Tr.seq (Tr.seq (Tr.region ?_))))
 refine Tr.q (QS.move rfl) rfl ?_
 refine Tr.q (QS.geq rfl rfl) rfl ?_
 refine Tr.nil (Tr.thenN ?_)
 refine Tr.cond rfl (fun h1 => ?_) (fun h1 => ?_)
 ·try simp only [bs] at h1
  first | contradiction | (exfalso; omega) | simp_all
 ·try simp only [bs] at h1
  refine Tr.skip (Tr.thenN ?_)
  refine Tr.seqJ (ι := Nat × Nat) (fun ⟨y, n⟩ => y < 65536 ∧ n ≤ 16 ∧ bitsLen x = n + bitsLen y) (fun _ => Bg.of w) (fun ⟨y, n⟩ => []) (fun ⟨y, n⟩ => [(0, .int .u64 (y : Nat)), (2, .int .i64 (n : Nat))]) ?_ (fun i hi => ?_)
  ·skip
   refine Tr.seq (Tr.region ?_)
   refine Tr.q (QS.move rfl) rfl ?_
   refine Tr.q (QS.geq rfl rfl) rfl ?_
   refine Tr.nil (Tr.thenN ?_)
   refine Tr.cond rfl (fun h2 => ?_) (fun h2 => ?_)
   ·try simp only [bs] at h2
    refine Tr.seq (Tr.region ?_)
    refine Tr.q (QS.move rfl) rfl ?_
    refine Tr.q (QS.shrN 16 rfl rfl (by decide)) rfl ?_
    refine Tr.q (QS.assign rfl) rfl ?_
    refine Tr.nil (Tr.thenN (Tr.region ?_))
    refine Tr.q (QS.move rfl) rfl ?_
    refine Tr.q (QS.addI rfl rfl (by omega)) rfl ?_
    refine Tr.q (QS.assign rfl) rfl ?_
    refine Tr.nil (Tr.thenN ?_)
    apply Tr.joined (x / 2 ^ 16, 16)
    ·exact rfl
    ·exact (.cons (by first | rfl | exact lookI rfl (by omega) | exact lookI rfl (by simp) | exact lookB rfl (by simp)) (.cons (by first | rfl | exact lookI rfl (by omega) | exact lookI rfl (by simp) | exact lookB rfl (by simp)) Front.nil))
    ·exact SubX.dropN 8 (by kernel_rfl) rfl
    ·exact (by repeat' constructor)
    ·exact ⟨by omega, by omega, len16 (by omega)⟩
   ·try simp only [bs] at h2
    refine Tr.skip (Tr.thenN ?_)
    apply Tr.joined (x, 0)
    ·exact rfl
    ·exact (.cons (by first | rfl | exact lookI rfl (by omega) | exact lookI rfl (by simp) | exact lookB rfl (by simp)) (.cons (by first | rfl | exact lookI rfl (by omega) | exact lookI rfl (by simp) | exact lookB rfl (by simp)) Front.nil))
    ·exact SubX.dropN 2 (by kernel_rfl) rfl
    ·exact (by repeat' constructor)
    ·exact ⟨by omega, by omega, by omega⟩
  ·obtain ⟨y, n⟩ := i
   replace hi : y < 65536 ∧ n ≤ 16 ∧ bitsLen x = n + bitsLen y := hi
   change Tr _ _ [] ([(0, .int .u64 (y : Nat)), (2, .int .i64 (n : Nat))] ++ _) _
   obtain ⟨hy1, hy2, hy3⟩ := hi
   refine Tr.seqJ (ι := Nat × Nat) (fun ⟨z, k⟩ => z < 256 ∧ k ≤ 24 ∧ bitsLen x = k + bitsLen z) (fun _ => Bg.of w) (fun ⟨z, k⟩ => []) (fun ⟨z, k⟩ => [(0, .int .u64 (z : Nat)), (2, .int .i64 (k : Nat))]) ?_ (fun i hi => ?_)
   ·skip
    refine Tr.seq (Tr.region ?_)
    refine Tr.q (QS.move rfl) rfl ?_
    refine Tr.q (QS.geq rfl rfl) rfl ?_
    refine Tr.nil (Tr.thenN ?_)
    refine Tr.cond rfl (fun h3 => ?_) (fun h3 => ?_)
    ·try simp only [bs] at h3
     refine Tr.seq (Tr.region ?_)
     refine Tr.q (QS.move rfl) rfl ?_
     refine Tr.q (QS.shrN 8 rfl rfl (by decide)) rfl ?_
     refine Tr.q (QS.assign rfl) rfl ?_
     refine Tr.nil (Tr.thenN (Tr.region ?_))
     refine Tr.q (QS.move rfl) rfl ?_
     refine Tr.q (QS.addI rfl rfl (by omega)) rfl ?_
     refine Tr.q (QS.assign rfl) rfl ?_
     refine Tr.nil (Tr.thenN ?_)
     apply Tr.joined (y / 2 ^ 8, n + 8)
     ·exact rfl
     ·exact (.cons (by first | rfl | exact lookI rfl (by omega) | exact lookI rfl (by simp) | exact lookB rfl (by simp)) (.cons (by first | rfl | exact lookI rfl (by omega) | exact lookI rfl (by simp) | exact lookB rfl (by simp)) Front.nil))
     ·exact SubX.dropN 8 (by kernel_rfl) rfl
     ·exact (by repeat' constructor)
     ·exact ⟨by omega, by omega, by have := len8 (x := y) (by omega); omega⟩
    ·try simp only [bs] at h3
     refine Tr.skip (Tr.thenN ?_)
     apply Tr.joined (y, n)
     ·exact rfl
     ·exact (.cons (by first | rfl | exact lookI rfl (by omega) | exact lookI rfl (by simp) | exact lookB rfl (by simp)) (.cons (by first | rfl | exact lookI rfl (by omega) | exact lookI rfl (by simp) | exact lookB rfl (by simp)) Front.nil))
     ·exact SubX.dropN 2 (by kernel_rfl) rfl
     ·exact (by repeat' constructor)
     ·exact ⟨by omega, by omega, by omega⟩
   ·obtain ⟨z, k⟩ := i
    replace hi : z < 256 ∧ k ≤ 24 ∧ bitsLen x = k + bitsLen z := hi
    change Tr _ _ [] ([(0, .int .u64 (z : Nat)), (2, .int .i64 (k : Nat))] ++ _) _
    obtain ⟨hz1, hz2, hz3⟩ := hi
    have hz8 := bitsLen_8 hz1
    refine Tr.seq (Tr.region ?_)
    refine Tr.q (QS.move rfl) rfl ?_
    refine Tr.q (QS.move rfl) rfl ?_
    refine Tr.q (QS.cvtIn rfl Try.underlying81 Try.underlying5 (by rw [IntKind.wrap_u8]; omega)) rfl ?_
    refine Tr.q (QS.lenTab rfl rfl Try.underlying9 (by kernel_rfl) (by omega)) rfl ?_
    refine Tr.q (QS.cvtIn rfl Try.underlying5 Try.underlying3 (IntWalk.i64_in _ (by omega))) rfl ?_
    refine Tr.q (QS.addI rfl rfl (by omega)) rfl ?_
    refine Tr.q (QS.assign rfl) rfl ?_
    refine Tr.nil (Tr.thenN (Tr.ret ?_))
    refine Tr.ret1 Try.results104 rfl (fun w' hw => ?_)
    exact ⟨by rw [hz3]; simp, hw.below (Bg.le.refl _)⟩
set_option maxRecDepth 100000 in
set_option maxHeartbeats 2000000 in
theorem lenU (x : Nat) (xi : Int) (ex : xi = ((x : Nat) : Int)) (hx : x < 4294967296) (w : World) :
  Calls Try.prog 92 #[.int .u64 xi] w (fun e w' => e = .returned (.int .i64 (bitsLen x : Nat)) ∧ Ext w w') := by
 subst ex
 refine enter Try.func92 rfl Try.ntmps92 rfl ?_
 refine Tr.seq (Tr.region ?_)
 refine Tr.q (QS.assign rfl) rfl ?_
 refine Tr.nil (Tr.thenN (Tr.seq ?_))
 refine Tr.cond rfl (fun h1 => ?_) (fun h1 => ?_)
 ·try simp only [bs] at h1
  first | contradiction | (exfalso; omega) | simp_all
 ·try simp only [bs] at h1
  refine Tr.skip (Tr.thenN (Tr.seq (Tr.region ?_)))
  refine Tr.q (QS.move rfl) rfl ?_
  refine Tr.q (QS.call rfl Try.call104 (fun w hw => len64_u x hx w)) rfl ?_
  refine Tr.q (QS.assign rfl) rfl ?_
  refine Tr.nil (Tr.thenN (Tr.ret ?_))
  refine Tr.ret1 Try.results92 rfl (fun w' hw => ?_)
  exact ⟨rfl, hw.below (Bg.le.refl _)⟩
set_option maxRecDepth 100000 in
set_option maxHeartbeats 2000000 in
theorem nextPow_u (n : Nat) (ni : Int) (en : ni = ((n : Nat) : Int)) (hn : n ≤ 1000000) (w : World) :
  Calls Try.prog 106 #[.int .i64 ni] w (fun e w' => e = .returned (.int .u64 ((1 <<< bitsLen n : Nat) : Int)) ∧ Ext w w') := by
 subst en
 have hb : bitsLen n ≤ 20 := (bitsLen_le_iff n 20).2 (by omega)
 refine enter Try.func106 rfl Try.ntmps106 rfl ?_
 refine Tr.seq (Tr.region ?_)
 refine Tr.q (QS.assign rfl) rfl ?_
 refine Tr.nil (Tr.thenN (Tr.seq (Tr.region ?_)))
 refine Tr.q (QS.move rfl) rfl ?_
 refine Tr.q (QS.cvtIn rfl Try.underlying3 Try.underlying119 (IntWalk.u64_in _ (by omega))) rfl ?_
 refine Tr.q (QS.call rfl Try.call92 (fun w hw => lenU n _ rfl (by omega) w)) rfl ?_
 refine Tr.q (QS.shlOne rfl rfl (by omega)) rfl ?_
 refine Tr.q (QS.assign rfl) rfl ?_
 refine Tr.nil (Tr.thenN (Tr.ret ?_))
 refine Tr.ret1 Try.results106 rfl (fun w' hw => ?_)
 exact ⟨rfl, hw.below (Bg.le.refl _)⟩
set_option maxRecDepth 100000 in
set_option maxHeartbeats 2000000 in
theorem next_u (r : UInt64) (bs : Nat) (w : World) (ho : OwnAt w [cellE bs [.int .u64 ((r).toNat : Int)] 155]) :
  Calls Try.prog 107 #[.pointer (some ⟨bs, 0, none⟩)] w (fun e w' => ∃ i : Unit, e = .returned (.int .u64 ((xorNext r).toNat : Nat)) ∧ Upd w.drawn w w' (blks [cellE bs [.int .u64 ((r).toNat : Int)] 155]) ([cellE bs [.int .u64 ((xorNext r).toNat : Int)] 155]) ∧ True) := by
 refine enterB (L := [cellE bs [.int .u64 ((r).toNat : Int)] 155]) ho rfl (Nat.le_refl _) Try.func107 rfl Try.ntmps107 rfl ?_
 refine Tr.seq (Tr.region ?_)
 refine Tr.q (QS.assign rfl) rfl ?_
 refine Tr.nil (Tr.thenN (Tr.seq ?_))
 refine Tr.regionT 0 9 HLF.mixed (by kernel_rfl) (panicThen panicBody) ?_
 refine TrQ.pureNil ?_
 refine TrQ.q (QS.move rfl) rfl ?_
 refine TrQ.q (QS.nilCheck rfl) rfl ?_
 refine TrQ.q (QS.loadV rfl (by repeat constructor) Try.isAgg155 (by rfl)) rfl ?_
 refine TrQ.q (QS.move rfl) rfl ?_
 refine TrQ.q (QS.nilCheck rfl) rfl ?_
 refine TrQ.q (QS.loadV rfl (by repeat constructor) Try.isAgg155 (by rfl)) rfl ?_
 refine TrQ.q (QS.shl64 13 rfl rfl (by decide)) rfl ?_
 refine TrQ.q (QS.xor64 rfl rfl) rfl ?_
 refine TrQ.q (QS.nilCheck rfl) rfl ?_
 refine TrQ.nil ?_
 refine Tr.storeW rfl rfl Try.sizeOf155 (by repeat constructor) (by rfl) (by rfl) (by first | exact List.all_eq_true.1 rfl | exact Enc.one _ _ | (intro u hu; simp [Value.cells] at hu; simp_all [Value.oneCell'])) rfl ?_
 refine Tr.nil (Tr.thenN (Tr.seq ?_))
 refine Tr.regionT 0 9 HLF.mixed (by kernel_rfl) (panicThen panicBody) ?_
 refine TrQ.pureNil ?_
 refine TrQ.q (QS.move rfl) rfl ?_
 refine TrQ.q (QS.nilCheck rfl) rfl ?_
 refine TrQ.q (QS.loadV rfl (by repeat constructor) Try.isAgg155 (by rfl)) rfl ?_
 refine TrQ.q (QS.move rfl) rfl ?_
 refine TrQ.q (QS.nilCheck rfl) rfl ?_
 refine TrQ.q (QS.loadV rfl (by repeat constructor) Try.isAgg155 (by rfl)) rfl ?_
 refine TrQ.q (QS.shr64 7 rfl rfl (by decide)) rfl ?_
 refine TrQ.q (QS.xor64 rfl rfl) rfl ?_
 refine TrQ.q (QS.nilCheck rfl) rfl ?_
 refine TrQ.nil ?_
 refine Tr.storeW rfl rfl Try.sizeOf155 (by repeat constructor) (by rfl) (by rfl) (by first | exact List.all_eq_true.1 rfl | exact Enc.one _ _ | (intro u hu; simp [Value.cells] at hu; simp_all [Value.oneCell'])) rfl ?_
 refine Tr.nil (Tr.thenN (Tr.seq ?_))
 refine Tr.regionT 0 9 HLF.mixed (by kernel_rfl) (panicThen panicBody) ?_
 refine TrQ.pureNil ?_
 refine TrQ.q (QS.move rfl) rfl ?_
 refine TrQ.q (QS.nilCheck rfl) rfl ?_
 refine TrQ.q (QS.loadV rfl (by repeat constructor) Try.isAgg155 (by rfl)) rfl ?_
 refine TrQ.q (QS.move rfl) rfl ?_
 refine TrQ.q (QS.nilCheck rfl) rfl ?_
 refine TrQ.q (QS.loadV rfl (by repeat constructor) Try.isAgg155 (by rfl)) rfl ?_
 refine TrQ.q (QS.shl64 17 rfl rfl (by decide)) rfl ?_
 refine TrQ.q (QS.xor64 rfl rfl) rfl ?_
 refine TrQ.q (QS.nilCheck rfl) rfl ?_
 refine TrQ.nil ?_
 refine Tr.storeW rfl rfl Try.sizeOf155 (by repeat constructor) (by rfl) (by rfl) (by first | exact List.all_eq_true.1 rfl | exact Enc.one _ _ | (intro u hu; simp [Value.cells] at hu; simp_all [Value.oneCell'])) rfl ?_
 refine Tr.nil (Tr.thenN (Tr.seq (Tr.region ?_)))
 refine Tr.q (QS.move rfl) rfl ?_
 refine Tr.q (QS.nilCheck rfl) rfl ?_
 refine Tr.q (QS.loadV rfl (by repeat constructor) Try.isAgg155 (by rfl)) rfl ?_
 refine Tr.q (QS.assign rfl) rfl ?_
 refine Tr.nil (Tr.thenN (Tr.ret ?_))
 refine Tr.ret1 Try.results107 rfl (fun w' hw => ?_)
 exact ⟨(), rfl, hw.upd (Bg.le.refl _) (by repeat' constructor), trivial⟩
set_option maxRecDepth 100000 in
set_option maxHeartbeats 2000000 in
theorem order2_u32 (d : Array UInt32) (V : Value) (bs : Nat) (a b s : Nat) (ai bi : Int) (ea : ai = ((a : Nat) : Int)) (eb : bi = ((b : Nat) : Int)) (w : World) (ho : OwnAt w [rowE V 22 encU32 d.toList, cellE bs [.int .i64 ((s : Nat) : Int)] 3]) (hd : d.size ≤ 1000000) (ha : a < d.size) (hb : b < d.size) (hs : s ≤ 100 := by omega) :
  Calls Try.prog 111 #[V, .int .i64 ai, .int .i64 bi, .pointer (some ⟨bs, 0, none⟩)] w (fun e w' => ∃ i : Nat × Nat × Nat, e = .returned ((fun i : Nat × Nat × Nat => .tuple #[.int .i64 (i.1 : Nat), .int .i64 (i.2.1 : Nat)]) i) ∧ Upd w.drawn w w' (blks [rowE V 22 encU32 d.toList, cellE bs [.int .i64 ((s : Nat) : Int)] 3]) ([rowE V 22 encU32 d.toList, cellE bs [.int .i64 (i.2.2 : Nat)] 3]) ∧ i = order2 ltW d a b s) := by
 subst ea eb
 have hdl : d.toList.length = d.size := Array.length_toList
 refine enterB (L := [rowE V 22 encU32 d.toList, cellE bs [.int .i64 ((s : Nat) : Int)] 3]) ho rfl (Nat.le_refl _) Try.func111 rfl Try.ntmps111 rfl ?_
 refine Tr.seq (Tr.region ?_)
 refine Tr.q (QS.assign rfl) rfl ?_
 refine Tr.q (QS.assign rfl) rfl ?_
 refine Tr.nil (Tr.thenN (Tr.seq (Tr.seq ?_)))
 refine Tr.regionQ HLF.mixed (by kernel_rfl) ?_
 refine TrQ.q (QS.move rfl) rfl ?_
 refine TrQ.q (QS.move rfl) rfl ?_
 refine TrQ.q (QS.idxRowN rfl rfl (by repeat constructor) Try.underlying34 Try.sizeOf22 (by rfl) (by omega)) rfl ?_
 refine TrQ.q (QS.elR1 rfl (by repeat constructor) Try.isAgg22 (by omega) (by rfl)) rfl ?_
 refine TrQ.q (QS.move rfl) rfl ?_
 refine TrQ.q (QS.move rfl) rfl ?_
 refine TrQ.q (QS.idxRowN rfl rfl (by repeat constructor) Try.underlying34 Try.sizeOf22 (by rfl) (by omega)) rfl ?_
 refine TrQ.q (QS.elR1 rfl (by repeat constructor) Try.isAgg22 (by omega) (by rfl)) rfl ?_
 refine TrQ.q (QS.call rfl Try.call100 (fun w hw => less_any (d.toList.getD (b) default) (d.toList.getD (a) default) w)) rfl ?_
 refine TrQ.nil ?_
 refine Tr.thenN ?_
 refine Tr.cond rfl (fun h1 => ?_) (fun h1 => ?_)
 ·try simp only [bs] at h1
  refine Tr.seq (Tr.region ?_)
  refine Tr.q (QS.move rfl) rfl ?_
  refine Tr.q (QS.nilCheck rfl) rfl ?_
  refine Tr.q (QS.loadV rfl (by repeat constructor) Try.isAgg3 (by rfl)) rfl ?_
  refine Tr.q (QS.addI rfl rfl (by omega)) rfl ?_
  refine Tr.q (QS.nilCheck rfl) rfl ?_
  refine Tr.storeW rfl rfl Try.sizeOf3 (by repeat constructor) (by rfl) (by rfl) (by first | exact List.all_eq_true.1 rfl | exact Enc.one _ _ | exact Enc.one encInt _ | (intro u hu; simp [Value.cells] at hu; simp_all [Value.oneCell'])) rfl ?_
  refine Tr.nil (Tr.thenN (Tr.seq (Tr.region ?_)))
  refine Tr.q (QS.move rfl) rfl ?_
  refine Tr.q (QS.move rfl) rfl ?_
  refine Tr.q (QS.assign rfl) rfl ?_
  refine Tr.q (QS.assign rfl) rfl ?_
  refine Tr.nil (Tr.thenN (Tr.ret (Tr.thenR ?_)))
  refine Tr.ret2 Try.results111 rfl rfl (fun w' hw => ?_)
  refine ⟨(b, a, s + 1), rfl, hw.upd (Bg.le.refl _) (by repeat' constructor), ?_⟩
  unfold order2
  rw [if_pos (by rw [← bang, ← bang]; simp_all)]
 ·try simp only [bs] at h1
  refine Tr.skip (Tr.thenN (Tr.seq (Tr.region ?_)))
  refine Tr.q (QS.move rfl) rfl ?_
  refine Tr.q (QS.move rfl) rfl ?_
  refine Tr.q (QS.assign rfl) rfl ?_
  refine Tr.q (QS.assign rfl) rfl ?_
  refine Tr.nil (Tr.thenN (Tr.ret ?_))
  refine Tr.ret2 Try.results111 rfl rfl (fun w' hw => ?_)
  refine ⟨(a, b, s), rfl, hw.upd (Bg.le.refl _) (by repeat' constructor), ?_⟩
  unfold order2
  rw [if_neg (by rw [← bang, ← bang]; simp_all)]
set_option maxRecDepth 100000 in
set_option maxHeartbeats 2000000 in
theorem median_u32 (d : Array UInt32) (V : Value) (bs : Nat) (a b c s : Nat) (ai bi ci : Int) (ea : ai = ((a : Nat) : Int)) (eb : bi = ((b : Nat) : Int)) (ec : ci = ((c : Nat) : Int)) (w : World) (ho : OwnAt w [rowE V 22 encU32 d.toList, cellE bs [.int .i64 ((s : Nat) : Int)] 3]) (hd : d.size ≤ 1000000) (ha : a < d.size) (hb : b < d.size) (hc : c < d.size) (hs : s ≤ 90 := by omega) :
  Calls Try.prog 109 #[V, .int .i64 ai, .int .i64 bi, .int .i64 ci, .pointer (some ⟨bs, 0, none⟩)] w (fun e w' => ∃ i : Nat × Nat, e = .returned ((fun i : Nat × Nat => .int .i64 (i.1 : Nat)) i) ∧ Upd w.drawn w w' (blks [rowE V 22 encU32 d.toList, cellE bs [.int .i64 ((s : Nat) : Int)] 3]) ([rowE V 22 encU32 d.toList, cellE bs [.int .i64 (i.2 : Nat)] 3]) ∧ i = median ltW d a b c s) := by
 subst ea eb ec
 refine enterB (L := [rowE V 22 encU32 d.toList, cellE bs [.int .i64 ((s : Nat) : Int)] 3]) ho rfl (Nat.le_refl _) Try.func109 rfl Try.ntmps109 rfl ?_
 refine Tr.seq (Tr.region ?_)
 refine Tr.q (QS.assign rfl) rfl ?_
 refine Tr.nil (Tr.thenN (Tr.seq (Tr.region ?_)))
 refine Tr.q (QS.move rfl) rfl ?_
 refine Tr.q (QS.move rfl) rfl ?_
 refine Tr.q (QS.move rfl) rfl ?_
 refine Tr.q (QS.move rfl) rfl ?_
 refine Tr.callO (fun i : Nat × Nat × Nat => .tuple #[.int .i64 (i.1 : Nat), .int .i64 (i.2.1 : Nat)]) [rowE V 22 encU32 d.toList, cellE bs [.int .i64 ((s : Nat) : Int)] 3] (fun i : Nat × Nat × Nat => [rowE V 22 encU32 d.toList, cellE bs [.int .i64 (i.2.2 : Nat)] 3]) (ok := fun i => i = order2 ltW d a b s) (dd := fun w => w.drawn) rfl Try.call111 (by repeat' (first | exact Split.nil _ | exact Del.here _ | apply Split.cons | apply Del.there)) (fun w hw => hw.dr) (fun w hw => order2_u32 d V bs a b s _ _ rfl rfl w (hw.own (by repeat' (first | exact Split.nil _ | exact Del.here _ | apply Split.cons | apply Del.there))) hd (by omega) (by omega)) rfl (fun p hp => ?_)
 obtain ⟨bp1, bp2, bp3⟩ := order2_bd hp (n := d.size) (by omega) (by omega)
 obtain ⟨x1, y1, s1⟩ := p
 dsimp only at bp1 bp2 bp3
 change Tr _ _ [rowE V 22 encU32 d.toList, cellE bs [.int .i64 ((s1 : Nat) : Int)] 3] _ _
 refine Tr.q (QS.move rfl) rfl ?_
 refine Tr.q (QS.extract rfl rfl) rfl ?_
 refine Tr.q (QS.extract rfl rfl) rfl ?_
 refine Tr.q (QS.assign rfl) rfl ?_
 refine Tr.q (QS.assign rfl) rfl ?_
 refine Tr.nil (Tr.thenN (Tr.seq (Tr.region ?_)))
 refine Tr.q (QS.move rfl) rfl ?_
 refine Tr.q (QS.move rfl) rfl ?_
 refine Tr.q (QS.move rfl) rfl ?_
 refine Tr.q (QS.move rfl) rfl ?_
 refine Tr.callO (fun i : Nat × Nat × Nat => .tuple #[.int .i64 (i.1 : Nat), .int .i64 (i.2.1 : Nat)]) [rowE V 22 encU32 d.toList, cellE bs [.int .i64 ((s1 : Nat) : Int)] 3] (fun i : Nat × Nat × Nat => [rowE V 22 encU32 d.toList, cellE bs [.int .i64 (i.2.2 : Nat)] 3]) (ok := fun i => i = order2 ltW d y1 c s1) (dd := fun w => w.drawn) rfl Try.call111 (by repeat' (first | exact Split.nil _ | exact Del.here _ | apply Split.cons | apply Del.there)) (fun w hw => hw.dr) (fun w hw => order2_u32 d V bs y1 c s1 _ _ rfl rfl w (hw.own (by repeat' (first | exact Split.nil _ | exact Del.here _ | apply Split.cons | apply Del.there))) hd (by omega) (by omega)) rfl (fun q hq => ?_)
 obtain ⟨bq1, bq2, bq3⟩ := order2_bd hq (n := d.size) (by omega) (by omega)
 obtain ⟨x2, y2, s2⟩ := q
 dsimp only at bq1 bq2 bq3
 change Tr _ _ [rowE V 22 encU32 d.toList, cellE bs [.int .i64 ((s2 : Nat) : Int)] 3] _ _
 refine Tr.q (QS.move rfl) rfl ?_
 refine Tr.q (QS.extract rfl rfl) rfl ?_
 refine Tr.q (QS.extract rfl rfl) rfl ?_
 refine Tr.q (QS.assign rfl) rfl ?_
 refine Tr.q (QS.assign rfl) rfl ?_
 refine Tr.nil (Tr.thenN (Tr.seq (Tr.region ?_)))
 refine Tr.q (QS.move rfl) rfl ?_
 refine Tr.q (QS.move rfl) rfl ?_
 refine Tr.q (QS.move rfl) rfl ?_
 refine Tr.q (QS.move rfl) rfl ?_
 refine Tr.callO (fun i : Nat × Nat × Nat => .tuple #[.int .i64 (i.1 : Nat), .int .i64 (i.2.1 : Nat)]) [rowE V 22 encU32 d.toList, cellE bs [.int .i64 ((s2 : Nat) : Int)] 3] (fun i : Nat × Nat × Nat => [rowE V 22 encU32 d.toList, cellE bs [.int .i64 (i.2.2 : Nat)] 3]) (ok := fun i => i = order2 ltW d x1 x2 s2) (dd := fun w => w.drawn) rfl Try.call111 (by repeat' (first | exact Split.nil _ | exact Del.here _ | apply Split.cons | apply Del.there)) (fun w hw => hw.dr) (fun w hw => order2_u32 d V bs x1 x2 s2 _ _ rfl rfl w (hw.own (by repeat' (first | exact Split.nil _ | exact Del.here _ | apply Split.cons | apply Del.there))) hd (by omega) (by omega)) rfl (fun r hr => ?_)
 obtain ⟨br1, br2, br3⟩ := order2_bd hr (n := d.size) (by omega) (by omega)
 obtain ⟨x3, y3, s3⟩ := r
 dsimp only at br1 br2 br3
 change Tr _ _ [rowE V 22 encU32 d.toList, cellE bs [.int .i64 ((s3 : Nat) : Int)] 3] _ _
 refine Tr.q (QS.move rfl) rfl ?_
 refine Tr.q (QS.extract rfl rfl) rfl ?_
 refine Tr.q (QS.extract rfl rfl) rfl ?_
 refine Tr.q (QS.assign rfl) rfl ?_
 refine Tr.q (QS.assign rfl) rfl ?_
 refine Tr.nil (Tr.thenN (Tr.seq (Tr.region ?_)))
 refine Tr.q (QS.move rfl) rfl ?_
 refine Tr.q (QS.assign rfl) rfl ?_
 refine Tr.nil (Tr.thenN (Tr.ret ?_))
 refine Tr.ret1 Try.results109 rfl (fun w' hw => ?_)
 exact ⟨(y3, s3), rfl, hw.upd (Bg.le.refl _) (by repeat' constructor), by unfold median; simp only []; rw [← hp]; dsimp only; rw [← hq]; dsimp only; rw [← hr]⟩
set_option maxRecDepth 100000 in
set_option maxHeartbeats 2000000 in
theorem adj_u32 (d : Array UInt32) (V : Value) (bs : Nat) (a s : Nat) (ai : Int) (ea : ai = ((a : Nat) : Int)) (w : World) (ho : OwnAt w [rowE V 22 encU32 d.toList, cellE bs [.int .i64 ((s : Nat) : Int)] 3]) (hd : d.size ≤ 1000000) (ha : a + 1 < d.size) (h1 : 1 ≤ a) (hs : s ≤ 80 := by omega) :
  Calls Try.prog 108 #[V, .int .i64 ai, .pointer (some ⟨bs, 0, none⟩)] w (fun e w' => ∃ i : Nat × Nat, e = .returned ((fun i : Nat × Nat => .int .i64 (i.1 : Nat)) i) ∧ Upd w.drawn w w' (blks [rowE V 22 encU32 d.toList, cellE bs [.int .i64 ((s : Nat) : Int)] 3]) ([rowE V 22 encU32 d.toList, cellE bs [.int .i64 (i.2 : Nat)] 3]) ∧ i = medianAdjacent ltW d a s) := by
 subst ea
 refine enterB (L := [rowE V 22 encU32 d.toList, cellE bs [.int .i64 ((s : Nat) : Int)] 3]) ho rfl (Nat.le_refl _) Try.func108 rfl Try.ntmps108 rfl ?_
 refine Tr.seq (Tr.region ?_)
 refine Tr.q (QS.assign rfl) rfl ?_
 refine Tr.nil (Tr.thenN (Tr.seq (Tr.region ?_)))
 refine Tr.q (QS.move rfl) rfl ?_
 refine Tr.q (QS.move rfl) rfl ?_
 refine Tr.q (QS.subI rfl rfl (by omega)) rfl ?_
 refine Tr.q (QS.move rfl) rfl ?_
 refine Tr.q (QS.move rfl) rfl ?_
 refine Tr.q (QS.addI rfl rfl (by omega)) rfl ?_
 refine Tr.q (QS.move rfl) rfl ?_
 refine Tr.callO (fun i : Nat × Nat => .int .i64 (i.1 : Nat)) [rowE V 22 encU32 d.toList, cellE bs [.int .i64 ((s : Nat) : Int)] 3] (fun i : Nat × Nat => [rowE V 22 encU32 d.toList, cellE bs [.int .i64 (i.2 : Nat)] 3]) (ok := fun zz => zz = median ltW d (a - 1) a (a + 1) s) (dd := fun w => w.drawn) rfl Try.call109 (by repeat' (first | exact Split.nil _ | exact Del.here _ | apply Split.cons | apply Del.there)) (fun w hw => hw.dr) (fun w hw => median_u32 d V bs (a - 1) a (a + 1) s _ _ _ (by omega) (by omega) (by omega) w (hw.own (by repeat' (first | exact Split.nil _ | exact Del.here _ | apply Split.cons | apply Del.there))) hd (by omega) (by omega) (by omega)) rfl (fun p hp => ?_)
 obtain ⟨x, s1⟩ := p
 change Tr _ _ [rowE V 22 encU32 d.toList, cellE bs [.int .i64 ((s1 : Nat) : Int)] 3] _ _
 refine Tr.q (QS.assign rfl) rfl ?_
 refine Tr.nil (Tr.thenN (Tr.ret ?_))
 refine Tr.ret1 Try.results108 rfl (fun w' hw => ?_)
 exact ⟨(x, s1), rfl, hw.upd (Bg.le.refl _) (by repeat' constructor), hp⟩
set_option maxRecDepth 100000 in
set_option maxHeartbeats 8000000 in
theorem choosePivot_u32 (d : Array UInt32) (V : Value) (a : Nat) (b : Nat) (ai : Int) (bi : Int) (ea : ai = ((a : Nat) : Int)) (eb : bi = ((b : Nat) : Int)) (w : World) (hr : (rowE V 22 encU32 d.toList).holds w) (hd : d.size ≤ 1000000) (hab : a < b) (hb : b ≤ d.size) :
  Calls Try.prog 97 #[V, .int .i64 ai, .int .i64 bi] w (fun e w' => e = .returned (.tuple #[.int .i64 ((choosePivot ltW d a b).1 : Nat), .int .i64 (hintCode (choosePivot ltW d a b).2)]) ∧ Mut w w' V ∧ (rowE V 22 encU32 d.toList).holds w') := by
 subst ea eb
 refine enterOwn (l := d.toList) (E := encU32) (T := 22) hr Try.func97 rfl Try.ntmps97 rfl ?_
 refine Tr.seq (Tr.region ?_)
 refine Tr.q (QS.assign rfl) rfl ?_
 refine Tr.q (QS.assign rfl) rfl ?_
 refine Tr.nil (Tr.thenN (Tr.seq (Tr.region ?_)))
 refine Tr.q (QS.move rfl) rfl ?_
 refine Tr.q (QS.move rfl) rfl ?_
 refine Tr.q (QS.subI rfl rfl (by omega)) rfl ?_
 refine Tr.q (QS.assign rfl) rfl ?_
 refine Tr.nil (Tr.thenN (Tr.seq (Tr.region ?_)))
 refine Tr.alloc Try.zeroValue3 rfl rfl (fun b1 => ?_)
 refine Tr.nil (Tr.thenN (Tr.seq (Tr.region ?_)))
 refine Tr.q (QS.move rfl) rfl ?_
 refine Tr.q (QS.move rfl) rfl ?_
 refine Tr.q (QS.quoI rfl rfl (by omega)) rfl ?_
 refine Tr.q (QS.mulI rfl rfl (by omega)) rfl ?_
 refine Tr.q (QS.addI rfl rfl (by omega)) rfl ?_
 refine Tr.q (QS.assign rfl) rfl ?_
 refine Tr.nil (Tr.thenN (Tr.seq (Tr.region ?_)))
 refine Tr.q (QS.move rfl) rfl ?_
 refine Tr.q (QS.move rfl) rfl ?_
 refine Tr.q (QS.quoI rfl rfl (by omega)) rfl ?_
 refine Tr.q (QS.mulI rfl rfl (by omega)) rfl ?_
 refine Tr.q (QS.addI rfl rfl (by omega)) rfl ?_
 refine Tr.q (QS.assign rfl) rfl ?_
 refine Tr.nil (Tr.thenN (Tr.seq (Tr.region ?_)))
 refine Tr.q (QS.move rfl) rfl ?_
 refine Tr.q (QS.move rfl) rfl ?_
 refine Tr.q (QS.quoI rfl rfl (by omega)) rfl ?_
 refine Tr.q (QS.mulI rfl rfl (by omega)) rfl ?_
 refine Tr.q (QS.addI rfl rfl (by omega)) rfl ?_
 refine Tr.q (QS.assign rfl) rfl ?_
 refine Tr.nil (Tr.thenN ?_)
 refine Tr.seqJ (ι := Nat × Nat × Nat × Nat) (fun ⟨i, j, k, s⟩ => (j < d.size ∧ s ≤ 12) ∧ (j, s) = rawPivot ltW d a b) (fun _ => Bg.less w V) (fun ⟨i, j, k, s⟩ => [rowE V 22 encU32 d.toList, cellE b1 [.int .i64 ((s : Nat) : Int)] 3]) (fun ⟨i, j, k, s⟩ => [(10, .int .i64 (i : Nat)), (11, .int .i64 (j : Nat)), (12, .int .i64 (k : Nat))]) ?_ (fun i hi => ?_)
 ·skip
  refine Tr.seq (Tr.region ?_)
  refine Tr.q (QS.move rfl) rfl ?_
  refine Tr.q (QS.geq rfl rfl) rfl ?_
  refine Tr.nil (Tr.thenN ?_)
  refine Tr.cond rfl (fun h2 => ?_) (fun h2 => ?_)
  ·try simp only [bs] at h2
   refine Tr.seqJ (ι := Nat × Nat × Nat × Nat) (fun ⟨i, j, k, s⟩ => (i < d.size ∧ j < d.size ∧ k < d.size ∧ s ≤ 9) ∧ median ltW d i j k s = rawPivot ltW d a b) (fun _ => Bg.less w V) (fun ⟨i, j, k, s⟩ => [rowE V 22 encU32 d.toList, cellE b1 [.int .i64 ((s : Nat) : Int)] 3]) (fun ⟨i, j, k, s⟩ => [(10, .int .i64 (i : Nat)), (11, .int .i64 (j : Nat)), (12, .int .i64 (k : Nat))]) ?_ (fun i hi => ?_)
   ·skip
    refine Tr.seq (Tr.region ?_)
    refine Tr.q (QS.move rfl) rfl ?_
    refine Tr.q (QS.geq rfl rfl) rfl ?_
    refine Tr.nil (Tr.thenN ?_)
    refine Tr.cond rfl (fun h3 => ?_) (fun h3 => ?_)
    ·try simp only [bs] at h3
     refine Tr.seq (Tr.region ?_)
     refine Tr.q (QS.move rfl) rfl ?_
     refine Tr.q (QS.move rfl) rfl ?_
     refine Tr.callO (fun i : Nat × Nat => .int .i64 (i.1 : Nat)) [rowE V 22 encU32 d.toList, cellE b1 [.int .i64 ((0 : Nat) : Int)] 3] (fun i : Nat × Nat => [rowE V 22 encU32 d.toList, cellE b1 [.int .i64 (i.2 : Nat)] 3]) (ok := fun zz => zz = medianAdjacent ltW d (a + (b - a) / 4 * 1) 0) (dd := fun w => w.drawn) rfl Try.call108 (by repeat' (first | exact Split.nil _ | exact Del.here _ | apply Split.cons | apply Del.there)) (fun w hw => hw.dr) (fun w hw => adj_u32 d V b1 (a + (b - a) / 4 * 1) 0 _ (by omega) w (hw.own (by repeat' (first | exact Split.nil _ | exact Del.here _ | apply Split.cons | apply Del.there))) hd (by omega) (by omega)) rfl (fun p hp => ?_)
     have bp := adj_bd hp (n := d.size) (by omega)
     obtain ⟨x1, s1⟩ := p
     dsimp only at bp
     change Tr _ _ [rowE V 22 encU32 d.toList, cellE b1 [.int .i64 ((s1 : Nat) : Int)] 3] _ _
     refine Tr.q (QS.assign rfl) rfl ?_
     refine Tr.nil (Tr.thenN (Tr.seq (Tr.region ?_)))
     refine Tr.q (QS.move rfl) rfl ?_
     refine Tr.q (QS.move rfl) rfl ?_
     refine Tr.callO (fun i : Nat × Nat => .int .i64 (i.1 : Nat)) [rowE V 22 encU32 d.toList, cellE b1 [.int .i64 ((s1 : Nat) : Int)] 3] (fun i : Nat × Nat => [rowE V 22 encU32 d.toList, cellE b1 [.int .i64 (i.2 : Nat)] 3]) (ok := fun zz => zz = medianAdjacent ltW d (a + (b - a) / 4 * 2) s1) (dd := fun w => w.drawn) rfl Try.call108 (by repeat' (first | exact Split.nil _ | exact Del.here _ | apply Split.cons | apply Del.there)) (fun w hw => hw.dr) (fun w hw => adj_u32 d V b1 (a + (b - a) / 4 * 2) s1 _ (by omega) w (hw.own (by repeat' (first | exact Split.nil _ | exact Del.here _ | apply Split.cons | apply Del.there))) hd (by omega) (by omega)) rfl (fun q hq => ?_)
     have bq := adj_bd hq (n := d.size) (by omega)
     obtain ⟨x2, s2⟩ := q
     dsimp only at bq
     change Tr _ _ [rowE V 22 encU32 d.toList, cellE b1 [.int .i64 ((s2 : Nat) : Int)] 3] _ _
     refine Tr.q (QS.assign rfl) rfl ?_
     refine Tr.nil (Tr.thenN (Tr.region ?_))
     refine Tr.q (QS.move rfl) rfl ?_
     refine Tr.q (QS.move rfl) rfl ?_
     refine Tr.callO (fun i : Nat × Nat => .int .i64 (i.1 : Nat)) [rowE V 22 encU32 d.toList, cellE b1 [.int .i64 ((s2 : Nat) : Int)] 3] (fun i : Nat × Nat => [rowE V 22 encU32 d.toList, cellE b1 [.int .i64 (i.2 : Nat)] 3]) (ok := fun zz => zz = medianAdjacent ltW d (a + (b - a) / 4 * 3) s2) (dd := fun w => w.drawn) rfl Try.call108 (by repeat' (first | exact Split.nil _ | exact Del.here _ | apply Split.cons | apply Del.there)) (fun w hw => hw.dr) (fun w hw => adj_u32 d V b1 (a + (b - a) / 4 * 3) s2 _ (by omega) w (hw.own (by repeat' (first | exact Split.nil _ | exact Del.here _ | apply Split.cons | apply Del.there))) hd (by omega) (by omega)) rfl (fun r hr => ?_)
     have br := adj_bd hr (n := d.size) (by omega)
     obtain ⟨x3, s3⟩ := r
     dsimp only at br
     change Tr _ _ [rowE V 22 encU32 d.toList, cellE b1 [.int .i64 ((s3 : Nat) : Int)] 3] _ _
     refine Tr.q (QS.assign rfl) rfl ?_
     refine Tr.nil (Tr.thenN ?_)
     apply Tr.joined (x1, x2, x3, s3)
     ·exact rfl
     ·exact (.cons (by first | rfl | exact lookI rfl (by omega) | exact lookI rfl (by simp) | exact lookB rfl (by simp)) (.cons (by first | rfl | exact lookI rfl (by omega) | exact lookI rfl (by simp) | exact lookB rfl (by simp)) (.cons (by first | rfl | exact lookI rfl (by omega) | exact lookI rfl (by simp) | exact lookB rfl (by simp)) Front.nil)))
     ·exact SubX.dropN 14 (by kernel_rfl) rfl
     ·exact (by repeat' constructor)
     ·exact ⟨by omega, raw_far (by omega) hp hq hr rfl⟩
    ·try simp only [bs] at h3
     refine Tr.skip (Tr.thenN ?_)
     apply Tr.joined (a + (b - a) / 4 * 1, a + (b - a) / 4 * 2, a + (b - a) / 4 * 3, 0)
     ·exact rfl
     ·exact (.cons (by first | rfl | exact lookI rfl (by omega) | exact lookI rfl (by simp) | exact lookB rfl (by simp)) (.cons (by first | rfl | exact lookI rfl (by omega) | exact lookI rfl (by simp) | exact lookB rfl (by simp)) (.cons (by first | rfl | exact lookI rfl (by omega) | exact lookI rfl (by simp) | exact lookB rfl (by simp)) Front.nil)))
     ·exact SubX.dropN 2 (by kernel_rfl) rfl
     ·exact (by repeat' constructor)
     ·exact ⟨by omega, raw_mid (by omega) (by omega) rfl⟩
   ·obtain ⟨i, j, k, s⟩ := i
    replace hi : (i < d.size ∧ j < d.size ∧ k < d.size ∧ s ≤ 9) ∧ median ltW d i j k s = rawPivot ltW d a b := hi
    change Tr _ _ [rowE V 22 encU32 d.toList, cellE b1 [.int .i64 ((s : Nat) : Int)] 3] ([(10, .int .i64 (i : Nat)), (11, .int .i64 (j : Nat)), (12, .int .i64 (k : Nat))] ++ _) _
    obtain ⟨hi1, hi2⟩ := hi
    refine Tr.region ?_
    refine Tr.q (QS.move rfl) rfl ?_
    refine Tr.q (QS.move rfl) rfl ?_
    refine Tr.q (QS.move rfl) rfl ?_
    refine Tr.q (QS.move rfl) rfl ?_
    refine Tr.callO (fun i : Nat × Nat => .int .i64 (i.1 : Nat)) [rowE V 22 encU32 d.toList, cellE b1 [.int .i64 ((s : Nat) : Int)] 3] (fun i : Nat × Nat => [rowE V 22 encU32 d.toList, cellE b1 [.int .i64 (i.2 : Nat)] 3]) (ok := fun zz => zz = median ltW d i j k s) (dd := fun w => w.drawn) rfl Try.call109 (by repeat' (first | exact Split.nil _ | exact Del.here _ | apply Split.cons | apply Del.there)) (fun w hw => hw.dr) (fun w hw => median_u32 d V b1 i j k s _ _ _ rfl rfl rfl w (hw.own (by repeat' (first | exact Split.nil _ | exact Del.here _ | apply Split.cons | apply Del.there))) hd (by omega) (by omega) (by omega)) rfl (fun z hz => ?_)
    have bz := median_bd hz (n := d.size) (by omega) (by omega) (by omega)
    obtain ⟨x4, s4⟩ := z
    dsimp only at bz
    change Tr _ _ [rowE V 22 encU32 d.toList, cellE b1 [.int .i64 ((s4 : Nat) : Int)] 3] _ _
    refine Tr.q (QS.assign rfl) rfl ?_
    refine Tr.nil (Tr.thenN ?_)
    apply Tr.joined (i, x4, k, s4)
    ·exact rfl
    ·exact (.cons (by first | rfl | exact lookI rfl (by omega) | exact lookI rfl (by simp) | exact lookB rfl (by simp)) (.cons (by first | rfl | exact lookI rfl (by omega) | exact lookI rfl (by simp) | exact lookB rfl (by simp)) (.cons (by first | rfl | exact lookI rfl (by omega) | exact lookI rfl (by simp) | exact lookB rfl (by simp)) Front.nil)))
    ·exact SubX.dropN 11 (by kernel_rfl) rfl
    ·exact (by repeat' constructor)
    ·exact ⟨by omega, by rw [← hi2]; exact hz⟩
  ·try simp only [bs] at h2
   refine Tr.skip (Tr.thenN ?_)
   apply Tr.joined (a + (b - a) / 4 * 1, a + (b - a) / 4 * 2, a + (b - a) / 4 * 3, 0)
   ·exact rfl
   ·exact (.cons (by first | rfl | exact lookI rfl (by omega) | exact lookI rfl (by simp) | exact lookB rfl (by simp)) (.cons (by first | rfl | exact lookI rfl (by omega) | exact lookI rfl (by simp) | exact lookB rfl (by simp)) (.cons (by first | rfl | exact lookI rfl (by omega) | exact lookI rfl (by simp) | exact lookB rfl (by simp)) Front.nil)))
   ·exact SubX.dropN 2 (by kernel_rfl) rfl
   ·exact (by repeat' constructor)
   ·exact ⟨by omega, raw_near (by omega)⟩
 ·obtain ⟨i, j, k, s⟩ := i
  replace hi : (j < d.size ∧ s ≤ 12) ∧ (j, s) = rawPivot ltW d a b := hi
  change Tr _ _ [rowE V 22 encU32 d.toList, cellE b1 [.int .i64 ((s : Nat) : Int)] 3] ([(10, .int .i64 (i : Nat)), (11, .int .i64 (j : Nat)), (12, .int .i64 (k : Nat))] ++ _) _
  obtain ⟨hj1, hj2⟩ := hi
  refine Tr.seq (Tr.region ?_)
  refine Tr.q (QS.lV rfl Try.isAgg3) rfl ?_
  refine Tr.nil (Tr.thenN (Tr.block (Tr.seq (Tr.region ?_))))
  refine Tr.q (QS.eql rfl rfl) rfl ?_
  refine Tr.q (QS.assign rfl) rfl ?_
  refine Tr.nil (Tr.thenN ?_)
  refine Tr.cond rfl (fun h4 => ?_) (fun h4 => ?_)
  ·try simp only [bs] at h4
   refine Tr.seq (Tr.region ?_)
   refine Tr.q (QS.move rfl) rfl ?_
   refine Tr.q (QS.assign rfl) rfl ?_
   refine Tr.q (QS.assign rfl) rfl ?_
   refine Tr.nil (Tr.thenN (Tr.ret ?_))
   refine Tr.inR ?_
   refine Tr.ret2 Try.results97 rfl rfl (fun w' hw => ?_)
   obtain rfl : s = 0 := by omega
   exact ⟨by rw [choosePivot_eq, ← hj2]; rfl, HpOK.mutOwn hw (.head _) rfl⟩
  ·try simp only [bs] at h4
   refine Tr.seq (Tr.region ?_)
   refine Tr.q (QS.eql rfl rfl) rfl ?_
   refine Tr.q (QS.assign rfl) rfl ?_
   refine Tr.nil (Tr.thenN ?_)
   refine Tr.cond rfl (fun h5 => ?_) (fun h5 => ?_)
   ·try simp only [bs] at h5
    refine Tr.seq (Tr.region ?_)
    refine Tr.q (QS.move rfl) rfl ?_
    refine Tr.q (QS.assign rfl) rfl ?_
    refine Tr.q (QS.assign rfl) rfl ?_
    refine Tr.nil (Tr.thenN (Tr.ret ?_))
    refine Tr.inR ?_
    refine Tr.ret2 Try.results97 rfl rfl (fun w' hw => ?_)
    obtain rfl : s = 12 := by omega
    exact ⟨by rw [choosePivot_eq, ← hj2]; rfl, HpOK.mutOwn hw (.head _) rfl⟩
   ·try simp only [bs] at h5
    refine Tr.seq (Tr.region ?_)
    refine Tr.q (QS.move rfl) rfl ?_
    refine Tr.q (QS.assign rfl) rfl ?_
    refine Tr.q (QS.assign rfl) rfl ?_
    refine Tr.nil (Tr.thenN (Tr.ret ?_))
    refine Tr.inR ?_
    refine Tr.ret2 Try.results97 rfl rfl (fun w' hw => ?_)
    exact ⟨by rw [choosePivot_eq, ← hj2]; simp only [hintOf]; rw [if_neg (by omega), if_neg (by omega)]; rfl, HpOK.mutOwn hw (.head _) rfl⟩
set_option maxRecDepth 100000 in
set_option maxHeartbeats 8000000 in
theorem break_u32 (d : Array UInt32) (V : Value) (a : Nat) (b : Nat) (ai : Int) (bi : Int) (ea : ai = ((a : Nat) : Int)) (eb : bi = ((b : Nat) : Int)) (w : World) (hr : (rowE V 22 encU32 d.toList).holds w) (hd : d.size ≤ 1000000) (hab : a ≤ b) (hb : b ≤ d.size) :
  Calls Try.prog 96 #[V, .int .i64 ai, .int .i64 bi] w (fun e w' => e = .returned (.tuple #[]) ∧ Mut w w' V ∧ (rowE V 22 encU32 (breakPatterns d a b).toList).holds w') := by
 subst ea eb
 obtain ⟨md, hmd⟩ : ∃ md, md = 1 <<< bitsLen (b - a) := ⟨_, rfl⟩
 obtain ⟨i0, hi0⟩ : ∃ i, i = a + (b - a) / 4 * 2 - 1 := ⟨_, rfl⟩
 refine enterOwn (l := d.toList) (E := encU32) (T := 22) hr Try.func96 rfl Try.ntmps96 rfl ?_
 refine Tr.seq (Tr.region ?_)
 refine Tr.q (QS.move rfl) rfl ?_
 refine Tr.q (QS.move rfl) rfl ?_
 refine Tr.q (QS.subI rfl rfl (by omega)) rfl ?_
 refine Tr.q (QS.assign rfl) rfl ?_
 refine Tr.nil (Tr.thenN (Tr.seq (Tr.region ?_)))
 refine Tr.q (QS.move rfl) rfl ?_
 refine Tr.q (QS.geq rfl rfl) rfl ?_
 refine Tr.nil (Tr.thenN ?_)
 refine Tr.cond rfl (fun h1 => ?_) (fun h1 => ?_)
 ·try simp only [bs] at h1
  refine Tr.seq (Tr.region ?_)
  refine Tr.q (QS.move rfl) rfl ?_
  refine Tr.q (QS.cvtTo64 (b - a) rfl Try.underlying3 Try.underlying155 (by omega) (by omega)) rfl ?_
  refine Tr.alloc Try.zeroValue155 rfl rfl (fun b2 => ?_)
  refine Tr.storeW rfl rfl Try.sizeOf155 (by repeat constructor) (by rfl) (by rfl) (by first | exact List.all_eq_true.1 rfl | exact Enc.one _ _) rfl ?_
  refine Tr.nil (Tr.thenN (Tr.seq (Tr.region ?_)))
  refine Tr.q (QS.move rfl) rfl ?_
  refine Tr.q (QS.call rfl Try.call106 (fun w hw => nextPow_u (b - a) _ (by omega) (by omega) w)) rfl ?_
  rw [← hmd]
  have hmb := mod_bd (n := b - a) (by omega)
  rw [← hmd] at hmb
  refine Tr.q (QS.assign rfl) rfl ?_
  refine Tr.nil (Tr.thenN (Tr.seq (Tr.region ?_)))
  refine Tr.q (QS.move rfl) rfl ?_
  refine Tr.q (QS.move rfl) rfl ?_
  refine Tr.q (QS.quoI rfl rfl (by omega)) rfl ?_
  refine Tr.q (QS.mulI rfl rfl (by omega)) rfl ?_
  refine Tr.q (QS.addI rfl rfl (by omega)) rfl ?_
  refine Tr.q (QS.subI rfl rfl (by omega)) rfl ?_
  refine Tr.q (QS.assign rfl) rfl ?_
  refine Tr.nil (Tr.thenN (Tr.block ?_))
  refine Tr.loop (ι := Nat × UInt64 × Array UInt32) (fun ⟨t, r, cur⟩ => t ≤ 3 ∧ cur.size = d.size ∧ bsteps a (b - a) md i0 t (UInt64.ofNat (b - a), d) = (r, cur)) (fun _ => _) (fun ⟨t, r, cur⟩ => [rowE V 22 encU32 cur.toList, cellE b2 [.int .u64 (r.toNat : Int)] 155]) (fun ⟨t, r, cur⟩ => [(9, .int .i64 ((i0 + t : Nat) : Int))]) (fun ⟨t, r, cur⟩ => 3 - t) (0, UInt64.ofNat (b - a), d) ⟨by omega, rfl, rfl⟩ (.cons (by first | rfl | exact lookI rfl (by omega) | exact lookI rfl (by simp) | exact lookB rfl (by simp)) Front.nil) (by repeat' constructor) rfl (fun i hi m hm => ?_)
  obtain ⟨t, r, cur⟩ := i
  replace hi : t ≤ 3 ∧ cur.size = d.size ∧ bsteps a (b - a) md i0 t (UInt64.ofNat (b - a), d) = (r, cur) := hi
  replace hm : m = 3 - t := hm
  change Tr _ _ [rowE V 22 encU32 cur.toList, cellE b2 [.int .u64 (r.toNat : Int)] 155] ([(9, .int .i64 ((i0 + t : Nat) : Int))] ++ _) _
  obtain ⟨hk1, hk2, hk3⟩ := hi
  have hcl : cur.toList.length = d.size := by rw [Array.length_toList]; exact hk2
  refine Tr.seq (Tr.seq (Tr.region ?_))
  refine Tr.q (QS.move rfl) rfl ?_
  refine Tr.q (QS.move rfl) rfl ?_
  refine Tr.q (QS.move rfl) rfl ?_
  refine Tr.q (QS.quoI rfl rfl (by omega)) rfl ?_
  refine Tr.q (QS.mulI rfl rfl (by omega)) rfl ?_
  refine Tr.q (QS.addI rfl rfl (by omega)) rfl ?_
  refine Tr.q (QS.addI rfl rfl (by omega)) rfl ?_
  refine Tr.q (QS.leq rfl rfl) rfl ?_
  refine Tr.nil (Tr.thenN ?_)
  refine Tr.cond rfl (fun h3 => ?_) (fun h3 => ?_)
  ·try simp only [bs] at h3
   refine Tr.skip (Tr.thenN (Tr.seq (Tr.block (Tr.seq (Tr.region ?_)))))
   refine Tr.callO (fun _ : Unit => .int .u64 ((xorNext r).toNat : Nat)) [cellE b2 [.int .u64 ((r).toNat : Int)] 155] (fun _ => [cellE b2 [.int .u64 ((xorNext r).toNat : Int)] 155]) (ok := fun _ => True) (dd := fun w => w.drawn) rfl Try.call107 (by repeat' (first | exact Split.nil _ | exact Del.here _ | apply Split.cons | apply Del.there)) (fun w hw => hw.dr) (fun w hw => next_u r b2 w (hw.own (by repeat' (first | exact Split.nil _ | exact Del.here _ | apply Split.cons | apply Del.there)))) rfl (fun i hi => ?_)
   refine Tr.q (QS.move rfl) rfl ?_
   refine Tr.q (QS.subUN (n := 1) rfl rfl (by omega) (by omega)) rfl ?_
   refine Tr.q (QS.and64 rfl rfl (by have := (xorNext r).toNat_lt; omega) (by omega)) rfl ?_
   have hand : (xorNext r).toNat &&& (md - 1) ≤ md - 1 := Nat.and_le_right
   change Tr _ _ [cellE b2 [.int .u64 ((xorNext r).toNat : Int)] 155, rowE V 22 encU32 cur.toList] _ _
   refine Tr.q (QS.cvtIn rfl Try.underlying119 Try.underlying3 (IntWalk.i64_in _ (by omega))) rfl ?_
   refine Tr.q (QS.assign rfl) rfl ?_
   refine Tr.nil (Tr.thenN ?_)
   refine Tr.seqJ (ι := Nat) (fun o => o < b - a ∧ o = if b - a ≤ ((xorNext r).toNat &&& (md - 1)) then ((xorNext r).toNat &&& (md - 1)) - (b - a) else ((xorNext r).toNat &&& (md - 1))) (fun _ => Bg.less w V) (fun o => [rowE V 22 encU32 cur.toList, cellE b2 [.int .u64 ((xorNext r).toNat : Int)] 155]) (fun o => [(10, .int .i64 (o : Nat))]) ?_ (fun o hi => ?_)
   ·skip
    refine Tr.seq (Tr.region ?_)
    refine Tr.q (QS.move rfl) rfl ?_
    refine Tr.q (QS.move rfl) rfl ?_
    refine Tr.q (QS.geq rfl rfl) rfl ?_
    refine Tr.nil (Tr.thenN ?_)
    refine Tr.cond rfl (fun h4 => ?_) (fun h4 => ?_)
    ·try simp only [bs] at h4
     refine Tr.region ?_
     refine Tr.q (QS.move rfl) rfl ?_
     refine Tr.q (QS.move rfl) rfl ?_
     refine Tr.q (QS.subI rfl rfl (by omega)) rfl ?_
     refine Tr.q (QS.assign rfl) rfl ?_
     refine Tr.nil (Tr.thenN ?_)
     apply Tr.joined (((xorNext r).toNat &&& (md - 1)) - (b - a))
     ·exact rfl
     ·exact (.cons (by first | rfl | exact lookI rfl (by omega) | exact lookI rfl (by simp) | exact lookB rfl (by simp)) Front.nil)
     ·exact SubX.dropN 7 (by kernel_rfl) rfl
     ·exact (by repeat' constructor)
     ·exact ⟨by omega, by rw [if_pos (by omega)]⟩
    ·try simp only [bs] at h4
     refine Tr.skip (Tr.thenN ?_)
     apply Tr.joined ((xorNext r).toNat &&& (md - 1))
     ·exact rfl
     ·exact (.cons (by first | rfl | exact lookI rfl (by omega) | exact lookI rfl (by simp) | exact lookB rfl (by simp)) Front.nil)
     ·exact SubX.dropN 3 (by kernel_rfl) rfl
     ·exact (by repeat' constructor)
     ·exact ⟨by omega, by rw [if_neg (by omega)]⟩
   ·skip
    replace hi : o < b - a ∧ o = if b - a ≤ ((xorNext r).toNat &&& (md - 1)) then ((xorNext r).toNat &&& (md - 1)) - (b - a) else ((xorNext r).toNat &&& (md - 1)) := hi
    change Tr _ _ [rowE V 22 encU32 cur.toList, cellE b2 [.int .u64 ((xorNext r).toNat : Int)] 155] ([(10, .int .i64 (o : Nat))] ++ _) _
    obtain ⟨ho1, ho2⟩ := hi
    refine Tr.regionT 6 17 HLF.mixed (by kernel_rfl) (panicIn (panicThen (panicThen (panicIn panicBody)))) ?_
    refine TrQ.pureMove rfl rfl ?_
    refine TrQ.pureMove rfl rfl ?_
    refine TrQ.pureMove rfl rfl ?_
    refine TrQ.pureMove rfl rfl ?_
    refine TrQ.pureMove rfl rfl ?_
    refine TrQ.pureQ (fun _ => QS.addI rfl rfl (by omega)) (by rfl) rfl ?_
    refine TrQ.pureNil ?_
    refine TrQ.q (QS.move rfl) rfl ?_
    refine TrQ.q (QS.move rfl) rfl ?_
    refine TrQ.q (QS.move rfl) rfl ?_
    refine TrQ.q (QS.addI rfl rfl (by omega)) rfl ?_
    refine TrQ.q (QS.idxRowN rfl rfl (by repeat constructor) Try.underlying34 Try.sizeOf22 (by rfl) (by omega)) rfl ?_
    refine TrQ.q (QS.elR1 rfl (by repeat constructor) Try.isAgg22 (by omega) (by rfl)) rfl ?_
    refine TrQ.q (QS.move rfl) rfl ?_
    refine TrQ.q (QS.move rfl) rfl ?_
    refine TrQ.q (QS.idxRowN rfl rfl (by repeat constructor) Try.underlying34 Try.sizeOf22 (by rfl) (by omega)) rfl ?_
    refine TrQ.q (QS.elR1 rfl (by repeat constructor) Try.isAgg22 (by omega) (by rfl)) rfl ?_
    refine TrQ.q (QS.idxRowN rfl rfl (by repeat constructor) Try.underlying34 Try.sizeOf22 (by rfl) (by omega)) rfl ?_
    refine TrQ.nil ?_
    refine Tr.storeEl (l := cur.toList) (i := (i0 + t)) (cur.toList.getD ((a + o)) default) rfl rfl Try.sizeOf22 (by repeat constructor) (by (try simp only [List.length_set]); omega) (by rfl) rfl ?_
    have hls5 : (List.set cur.toList ((i0 + t)) (cur.toList.getD ((a + o)) default)).length = (cur.toList).length := List.length_set
    refine Tr.q (QS.idxRowN rfl rfl (by repeat constructor) Try.underlying34 Try.sizeOf22 (by rfl) (by omega)) rfl ?_
    refine Tr.storeEl (l := (cur.toList.set ((i0 + t)) (cur.toList.getD ((a + o)) default))) (i := (a + o)) (cur.toList.getD ((i0 + t)) default) rfl rfl Try.sizeOf22 (by repeat constructor) (by (try simp only [List.length_set]); omega) (by rfl) rfl ?_
    have hls6 : (List.set (cur.toList.set ((i0 + t)) (cur.toList.getD ((a + o)) default)) ((a + o)) (cur.toList.getD ((i0 + t)) default)).length = ((cur.toList.set ((i0 + t)) (cur.toList.getD ((a + o)) default))).length := List.length_set
    rw [bang, bang, set_swp]
    refine Tr.nil (Tr.inN (Tr.thenN (Tr.region ?_)))
    refine Tr.q (QS.move rfl) rfl ?_
    refine Tr.q (QS.addI rfl rfl (by omega)) rfl ?_
    refine Tr.q (QS.assign rfl) rfl ?_
    refine Tr.nil (Tr.thenN ?_)
    apply Tr.again (t + 1, xorNext r, _)
    ·exact rfl
    ·exact (.cons (by first | rfl | exact lookI rfl (by omega) | exact lookI rfl (by simp) | exact lookB rfl (by simp)) Front.nil)
    ·exact SubX.dropN 37 (by kernel_rfl) rfl
    ·exact (by repeat' constructor)
    ·exact ⟨by omega, by rw [swpW]; exact hk2, bstep_eq hk3 ho2⟩
    ·exact (by (try dsimp only); omega)
  ·try simp only [bs] at h3
   refine Tr.exit ?_
   refine Tr.thenE (Tr.thenE (Tr.inHit ?_))
   refine Tr.ret0n Try.results96 (fun w' hw => ?_)
   obtain rfl : t = 3 := by omega
   have hq : breakPatterns d a b = cur := by rw [break_go (by omega), ← hmd, ← hi0, hk3]
   exact ⟨rfl, by rw [hq]; exact HpOK.mutOwn hw (.head _) rfl⟩
 ·try simp only [bs] at h1
  refine Tr.skip ?_
  refine Tr.ret0n Try.results96 (fun w' hw => ?_)
  exact ⟨rfl, by rw [break_no (by omega)]; exact HpOK.mutOwn hw (.head _) rfl⟩
set_option maxRecDepth 100000 in
set_option maxHeartbeats 16000000 in
theorem pdq_step (V : Value) (n : Nat) (ih : ∀ (d : Array UInt32) (a b limit : Nat) (ai bi li : Int) (w : World), ai = ((a : Nat) : Int) → bi = ((b : Nat) : Int) → li = ((limit : Nat) : Int) → (rowE V 22 encU32 d.toList).holds w → d.size ≤ 1000000 → a ≤ b → b ≤ d.size → limit ≤ 64 → b - a < n → Calls Try.prog 91 #[V, .int .i64 ai, .int .i64 bi, .int .i64 li] w (fun e w' => e = .returned (.tuple #[]) ∧ Mut w w' V ∧ (rowE V 22 encU32 (pdq ltW d a b limit true true).toList).holds w')) (d : Array UInt32) (a : Nat) (b : Nat) (limit : Nat) (ai : Int) (bi : Int) (limiti : Int) (ea : ai = ((a : Nat) : Int)) (eb : bi = ((b : Nat) : Int)) (elimit : limiti = ((limit : Nat) : Int)) (w : World) (hr : (rowE V 22 encU32 d.toList).holds w) (hd : d.size ≤ 1000000) (hab : a ≤ b) (hb : b ≤ d.size) (hl : limit ≤ 64) (hn : b - a ≤ n) :
  Calls Try.prog 91 #[V, .int .i64 ai, .int .i64 bi, .int .i64 limiti] w (fun e w' => e = .returned (.tuple #[]) ∧ Mut w w' V ∧ (rowE V 22 encU32 (pdq ltW d a b limit true true).toList).holds w') := by
 subst ea eb elimit
 refine enterOwn (l := d.toList) (E := encU32) (T := 22) hr Try.func91 rfl Try.ntmps91 rfl ?_
 refine Tr.seq (Tr.region ?_)
 refine Tr.q (QS.assign rfl) rfl ?_
 refine Tr.nil (Tr.thenN (Tr.seq (Tr.region ?_)))
 refine Tr.q (QS.assign rfl) rfl ?_
 refine Tr.nil (Tr.thenN (Tr.block ?_))
 refine Tr.loop (ι := Nat × Nat × Nat × Bool × Bool × Array UInt32) (fun ⟨a1, b1, l1, wb, wp, cur⟩ => (a ≤ a1 ∧ a1 ≤ b1 ∧ b1 ≤ b ∧ l1 ≤ 64) ∧ cur.size = d.size ∧ pdq ltW cur a1 b1 l1 wb wp = pdq ltW d a b limit true true) (fun _ => _) (fun ⟨a1, b1, l1, wb, wp, cur⟩ => [rowE V 22 encU32 cur.toList]) (fun ⟨a1, b1, l1, wb, wp, cur⟩ => [(1, .int .i64 (a1 : Nat)), (2, .int .i64 (b1 : Nat)), (3, .int .i64 (l1 : Nat)), (8, .bool wb), (9, .bool wp)]) (fun ⟨a1, b1, l1, wb, wp, cur⟩ => b1 - a1) (a, b, limit, true, true, d) ⟨⟨Nat.le_refl _, hab, Nat.le_refl _, hl⟩, rfl, rfl⟩ (.cons (by first | rfl | exact lookI rfl (by omega) | exact lookB rfl (decide_eq_decide.2 (by omega)) | exact lookI rfl (by simp) | exact lookB rfl (by simp)) (.cons (by first | rfl | exact lookI rfl (by omega) | exact lookB rfl (decide_eq_decide.2 (by omega)) | exact lookI rfl (by simp) | exact lookB rfl (by simp)) (.cons (by first | rfl | exact lookI rfl (by omega) | exact lookB rfl (decide_eq_decide.2 (by omega)) | exact lookI rfl (by simp) | exact lookB rfl (by simp)) (.cons (by first | rfl | exact lookI rfl (by omega) | exact lookB rfl (decide_eq_decide.2 (by omega)) | exact lookI rfl (by simp) | exact lookB rfl (by simp)) (.cons (by first | rfl | exact lookI rfl (by omega) | exact lookB rfl (decide_eq_decide.2 (by omega)) | exact lookI rfl (by simp) | exact lookB rfl (by simp)) Front.nil))))) (by repeat' constructor) rfl (fun i hi m hm => ?_)
 obtain ⟨a1, b1, l1, wb, wp, cur⟩ := i
 replace hi : (a ≤ a1 ∧ a1 ≤ b1 ∧ b1 ≤ b ∧ l1 ≤ 64) ∧ cur.size = d.size ∧ pdq ltW cur a1 b1 l1 wb wp = pdq ltW d a b limit true true := hi
 replace hm : m = b1 - a1 := hm
 change Tr _ _ [rowE V 22 encU32 cur.toList] ([(1, .int .i64 (a1 : Nat)), (2, .int .i64 (b1 : Nat)), (3, .int .i64 (l1 : Nat)), (8, .bool wb), (9, .bool wp)] ++ _) _
 obtain ⟨hk1, hk2, hk3⟩ := hi
 have hcl : cur.toList.length = d.size := by rw [Array.length_toList]; exact hk2
 refine Tr.block (Tr.seq (Tr.region ?_))
 refine Tr.q (QS.move rfl) rfl ?_
 refine Tr.q (QS.move rfl) rfl ?_
 refine Tr.q (QS.subI rfl rfl (by omega)) rfl ?_
 refine Tr.q (QS.assign rfl) rfl ?_
 refine Tr.nil (Tr.thenN (Tr.seq (Tr.seq (Tr.region ?_))))
 refine Tr.q (QS.move rfl) rfl ?_
 refine Tr.q (QS.leq rfl rfl) rfl ?_
 refine Tr.nil (Tr.thenN ?_)
 refine Tr.cond rfl (fun h1 => ?_) (fun h1 => ?_)
 ·try simp only [bs] at h1
  refine Tr.seq (Tr.region ?_)
  refine Tr.q (QS.move rfl) rfl ?_
  refine Tr.q (QS.move rfl) rfl ?_
  refine Tr.q (QS.move rfl) rfl ?_
  refine Tr.callMut rfl Try.call94 (by repeat constructor) (fun w hw => insertion_u32 cur V a1 b1 _ _ rfl rfl w (hw.ent _ (.head _)) (by omega) (by omega) (by omega)) rfl ?_
  refine Tr.nil (Tr.thenN (Tr.ret (Tr.thenR ?_)))
  refine Tr.inR ?_
  refine Tr.thenR ?_
  refine Tr.inR ?_
  refine Tr.ret0 Try.results91 (fun w' hw => ?_)
  exact ⟨rfl, by rw [← hk3, own_pdq_small (by omega)]; exact HpOK.mutOwn hw (.head _) rfl⟩
 ·try simp only [bs] at h1
  refine Tr.skip (Tr.thenN (Tr.seq (Tr.seq (Tr.region ?_))))
  refine Tr.q (QS.move rfl) rfl ?_
  refine Tr.q (QS.eql rfl rfl) rfl ?_
  refine Tr.nil (Tr.thenN ?_)
  refine Tr.cond rfl (fun h2 => ?_) (fun h2 => ?_)
  ·try simp only [bs] at h2
   refine Tr.seq (Tr.region ?_)
   refine Tr.q (QS.move rfl) rfl ?_
   refine Tr.q (QS.move rfl) rfl ?_
   refine Tr.q (QS.move rfl) rfl ?_
   refine Tr.callMut rfl Try.call95 (by repeat constructor) (fun w hw => heap_u32 cur V a1 b1 _ _ rfl rfl w (hw.ent _ (.head _)) (by omega) (by omega) (by omega)) rfl ?_
   refine Tr.nil (Tr.thenN (Tr.ret (Tr.thenR ?_)))
   refine Tr.inR ?_
   refine Tr.thenR ?_
   refine Tr.inR ?_
   refine Tr.ret0 Try.results91 (fun w' hw => ?_)
   exact ⟨rfl, by rw [← hk3, own_pdq_heap (by omega) (by omega)]; exact HpOK.mutOwn hw (.head _) rfl⟩
  ·try simp only [bs] at h2
   refine Tr.skip (Tr.thenN ?_)
   refine Tr.seqJ (ι := Nat × Array UInt32) (fun ⟨l2, d1⟩ => (d1.size = d.size ∧ l2 ≤ 64) ∧ l2 = (if !wb then l1 - 1 else l1) ∧ d1 = (if !wb then breakPatterns cur a1 b1 else cur)) (fun _ => Bg.less w V) (fun ⟨l2, d1⟩ => [rowE V 22 encU32 d1.toList]) (fun ⟨l2, d1⟩ => [(3, .int .i64 (l2 : Nat))]) ?_ (fun i hi => ?_)
   ·skip
    refine Tr.seq (Tr.region ?_)
    refine Tr.q (QS.move rfl) rfl ?_
    refine Tr.q (QS.not rfl) rfl ?_
    refine Tr.nil (Tr.thenN ?_)
    refine Tr.cond rfl (fun h3 => ?_) (fun h3 => ?_)
    ·try simp only [bs] at h3
     refine Tr.seq (Tr.region ?_)
     refine Tr.q (QS.move rfl) rfl ?_
     refine Tr.q (QS.move rfl) rfl ?_
     refine Tr.q (QS.move rfl) rfl ?_
     refine Tr.callMut rfl Try.call96 (by repeat constructor) (fun w hw => break_u32 cur V a1 b1 _ _ rfl rfl w (hw.ent _ (.head _)) (by omega) (by omega) (by omega)) rfl ?_
     refine Tr.rowLen hr (.head _) (fun hq => ?_)
     have hz1 : (breakPatterns cur a1 b1).size = d.size := by rw [← Array.length_toList, ← Array.length_toList]; exact hq
     refine Tr.nil (Tr.thenN (Tr.region ?_))
     refine Tr.q (QS.move rfl) rfl ?_
     refine Tr.q (QS.subI rfl rfl (by omega)) rfl ?_
     refine Tr.q (QS.assign rfl) rfl ?_
     refine Tr.nil (Tr.thenN ?_)
     apply Tr.joined (l1 - 1, breakPatterns cur a1 b1)
     ·exact rfl
     ·exact (.cons (by first | rfl | exact lookI rfl (by omega) | exact lookB rfl (decide_eq_decide.2 (by omega)) | exact lookI rfl (by simp) | exact lookB rfl (by simp)) Front.nil)
     ·exact SubX.dropN 9 (by kernel_rfl) rfl
     ·exact (by repeat' constructor)
     ·exact ⟨⟨hz1, by omega⟩, by simp_all, by simp_all⟩
    ·try simp only [bs] at h3
     refine Tr.skip (Tr.thenN ?_)
     apply Tr.joined (l1, cur)
     ·exact rfl
     ·exact (.cons (by first | rfl | exact lookI rfl (by omega) | exact lookB rfl (decide_eq_decide.2 (by omega)) | exact lookI rfl (by simp) | exact lookB rfl (by simp)) Front.nil)
     ·exact SubX.dropN 2 (by kernel_rfl) rfl
     ·exact (by repeat' constructor)
     ·exact ⟨⟨hk2, by omega⟩, by simp_all, by simp_all⟩
   ·obtain ⟨l2, d1⟩ := i
    replace hi : (d1.size = d.size ∧ l2 ≤ 64) ∧ l2 = (if !wb then l1 - 1 else l1) ∧ d1 = (if !wb then breakPatterns cur a1 b1 else cur) := hi
    change Tr _ _ [rowE V 22 encU32 d1.toList] ([(3, .int .i64 (l2 : Nat))] ++ _) _
    obtain ⟨hd1, hl2, hd1e⟩ := hi
    refine Tr.seq (Tr.region ?_)
    refine Tr.q (QS.move rfl) rfl ?_
    refine Tr.q (QS.move rfl) rfl ?_
    refine Tr.q (QS.move rfl) rfl ?_
    refine Tr.callMut rfl Try.call97 (by repeat constructor) (fun w hw => choosePivot_u32 d1 V a1 b1 _ _ rfl rfl w (hw.ent _ (.head _)) (by omega) (by omega) (by omega)) rfl ?_
    obtain ⟨c, hc⟩ : ∃ c, c = choosePivot ltW d1 a1 b1 := ⟨_, rfl⟩
    rw [← hc]
    have hcr := choosePivot_holds ltW d1 a1 b1 (by omega)
    rw [← hc] at hcr
    refine Tr.q (QS.move rfl) rfl ?_
    refine Tr.q (QS.extract rfl rfl) rfl ?_
    refine Tr.q (QS.extract rfl rfl) rfl ?_
    refine Tr.q (QS.assign rfl) rfl ?_
    refine Tr.q (QS.assign rfl) rfl ?_
    refine Tr.nil (Tr.thenN ?_)
    refine Tr.seqJ (ι := Nat × Hint × Array UInt32) (fun ⟨pv, hint, d2⟩ => (a1 ≤ pv ∧ pv < b1 ∧ d2.size = d.size) ∧ d2 = (if c.2 = .decreasing then reverseRange d1 a1 b1 else d1) ∧ pv = (if c.2 = .decreasing then (b1 - 1) - (c.1 - a1) else c.1) ∧ hint = (if c.2 = .decreasing then Hint.increasing else c.2)) (fun _ => Bg.less w V) (fun ⟨pv, hint, d2⟩ => [rowE V 22 encU32 d2.toList]) (fun ⟨pv, hint, d2⟩ => [(11, .int .i64 (pv : Nat)), (12, .int .i64 (hintCode hint))]) ?_ (fun i hi => ?_)
    ·skip
     refine Tr.seq (Tr.region ?_)
     refine Tr.q (QS.move rfl) rfl ?_
     refine Tr.q (QS.eql rfl rfl) rfl ?_
     refine Tr.nil (Tr.thenN ?_)
     refine Tr.cond rfl (fun h4 => ?_) (fun h4 => ?_)
     ·try simp only [bs] at h4
      refine Tr.seq (Tr.region ?_)
      refine Tr.q (QS.move rfl) rfl ?_
      refine Tr.q (QS.move rfl) rfl ?_
      refine Tr.q (QS.move rfl) rfl ?_
      refine Tr.callMut rfl Try.call98 (by repeat constructor) (fun w hw => reverse_u32 d1 V a1 b1 _ _ rfl rfl w (hw.ent _ (.head _)) (by omega) (by omega) (by omega)) rfl ?_
      refine Tr.rowLen hr (.head _) (fun hq => ?_)
      have hz2 : (reverseRange d1 a1 b1).size = d.size := by rw [← Array.length_toList, ← Array.length_toList]; exact hq
      refine Tr.nil (Tr.thenN (Tr.seq (Tr.region ?_)))
      refine Tr.q (QS.move rfl) rfl ?_
      refine Tr.q (QS.subI rfl rfl (by omega)) rfl ?_
      refine Tr.q (QS.move rfl) rfl ?_
      refine Tr.q (QS.move rfl) rfl ?_
      refine Tr.q (QS.subI rfl rfl (by omega)) rfl ?_
      refine Tr.q (QS.subI rfl rfl (by omega)) rfl ?_
      refine Tr.q (QS.assign rfl) rfl ?_
      refine Tr.nil (Tr.thenN (Tr.region ?_))
      refine Tr.q (QS.assign rfl) rfl ?_
      refine Tr.nil (Tr.thenN ?_)
      have hx : c.2 = .decreasing := (hintCode_dec c.2).1 (by assumption)
      apply Tr.joined (b1 - 1 - (c.1 - a1), .increasing, reverseRange d1 a1 b1)
      ·exact rfl
      ·exact (.cons (by first | rfl | exact lookI rfl (by omega) | exact lookB rfl (decide_eq_decide.2 (by omega)) | exact lookI rfl (by simp) | exact lookB rfl (by simp)) (.cons (by first | rfl | exact lookI rfl (by omega) | exact lookB rfl (decide_eq_decide.2 (by omega)) | exact lookI rfl (by simp) | exact lookB rfl (by simp)) Front.nil))
      ·exact SubX.dropN 14 (by kernel_rfl) rfl
      ·exact (by repeat' constructor)
      ·exact ⟨⟨by omega, by omega, hz2⟩, by rw [if_pos hx], by rw [if_pos hx], by rw [if_pos hx]⟩
     ·try simp only [bs] at h4
      refine Tr.skip (Tr.thenN ?_)
      have hx : ¬ c.2 = .decreasing := fun e => absurd ((hintCode_dec c.2).2 e) (by assumption)
      apply Tr.joined (c.1, c.2, d1)
      ·exact rfl
      ·exact (.cons (by first | rfl | exact lookI rfl (by omega) | exact lookB rfl (decide_eq_decide.2 (by omega)) | exact lookI rfl (by simp) | exact lookB rfl (by simp)) (.cons (by first | rfl | exact lookI rfl (by omega) | exact lookB rfl (decide_eq_decide.2 (by omega)) | exact lookI rfl (by simp) | exact lookB rfl (by simp)) Front.nil))
      ·exact SubX.dropN 2 (by kernel_rfl) rfl
      ·exact (by repeat' constructor)
      ·exact ⟨⟨by omega, by omega, hd1.1⟩, by rw [if_neg hx], by rw [if_neg hx], by rw [if_neg hx]⟩
    ·obtain ⟨pv, hint, d2⟩ := i
     replace hi : (a1 ≤ pv ∧ pv < b1 ∧ d2.size = d.size) ∧ d2 = (if c.2 = .decreasing then reverseRange d1 a1 b1 else d1) ∧ pv = (if c.2 = .decreasing then (b1 - 1) - (c.1 - a1) else c.1) ∧ hint = (if c.2 = .decreasing then Hint.increasing else c.2) := hi
     change Tr _ _ [rowE V 22 encU32 d2.toList] ([(11, .int .i64 (pv : Nat)), (12, .int .i64 (hintCode hint))] ++ _) _
     obtain ⟨hpv, hd2, hpve, hhint⟩ := hi
     have hdl2 : d2.toList.length = d.size := by rw [Array.length_toList]; exact hpv.2.2
     refine Tr.seqJ (ι := Array UInt32) (fun d3 => d3.size = d.size ∧ (if wb && wp && hint = .increasing then partialInsertionSort ltW d2 a1 b1 else (d2, false)) = (d3, false)) (fun _ => Bg.less w V) (fun d3 => [rowE V 22 encU32 d3.toList]) (fun d3 => []) ?_ (fun d3 hi => ?_)
     ·skip
      refine Tr.seq (Tr.region ?_)
      refine Tr.q (QS.move rfl) rfl ?_
      refine Tr.q (QS.move rfl) rfl ?_
      apply Tr.andP
      ·exact (rfl : _ = (2, 62, 64))
      ·exact rfl
      ·intro hT5; have hT5' := hT5
       try simp only [bs] at hT5'
       refine Tr.gq rfl rfl hT5 (QS.move rfl) rfl ?_
       refine Tr.q (QS.pickT rfl hT5 rfl) rfl ?_
       refine Tr.nil (Tr.thenN ?_)
       exact Tr.endX (Sub.cons rfl (Sub.dropN 2 (by kernel_rfl) rfl))
      ·intro hF5
       refine Tr.gskip rfl rfl hF5 rfl ?_
       refine Tr.q (QS.pickF rfl hF5 rfl) rfl ?_
       refine Tr.nil (Tr.thenN ?_)
       exact Tr.endX (Sub.cons rfl (Sub.dropN 2 (by kernel_rfl) rfl))
      refine Tr.q (QS.move rfl) rfl ?_
      apply Tr.andP
      ·exact (rfl : _ = (3, 65, 68))
      ·exact rfl
      ·intro hT6; have hT6' := hT6
       try simp only [bs] at hT6'
       refine Tr.gq rfl rfl hT6 (QS.move rfl) rfl ?_
       refine Tr.gq rfl rfl hT6 (QS.eql rfl rfl) rfl ?_
       refine Tr.q (QS.pickT rfl hT6 rfl) rfl ?_
       refine Tr.nil (Tr.thenN ?_)
       exact Tr.endX (Sub.cons rfl (Sub.dropN 3 (by kernel_rfl) rfl))
      ·intro hF6
       refine Tr.gskip rfl rfl hF6 rfl ?_
       refine Tr.gskip rfl rfl hF6 rfl ?_
       refine Tr.q (QS.pickF rfl hF6 rfl) rfl ?_
       refine Tr.nil (Tr.thenN ?_)
       exact Tr.endX (Sub.cons rfl (Sub.dropN 3 (by kernel_rfl) rfl))
      refine Tr.nil (Tr.thenN ?_)
      refine Tr.cond rfl (fun h7 => ?_) (fun h7 => ?_)
      ·try simp only [bs] at h7
       refine Tr.seq (Tr.region ?_)
       refine Tr.q (QS.move rfl) rfl ?_
       refine Tr.q (QS.move rfl) rfl ?_
       refine Tr.q (QS.move rfl) rfl ?_
       refine Tr.callMut rfl Try.call99 (by repeat constructor) (fun w hw => partialIns_u32 d2 V a1 b1 _ _ rfl rfl w (hw.ent _ (.head _)) (by omega) (by omega) (by omega)) rfl ?_
       obtain ⟨p, hp⟩ : ∃ p, p = partialInsertionSort ltW d2 a1 b1 := ⟨_, rfl⟩
       rw [← hp]
       refine Tr.rowLen hr (.head _) (fun hq => ?_)
       have hz3 : p.1.size = d.size := by rw [← Array.length_toList, ← Array.length_toList]; exact hq
       refine Tr.nil (Tr.thenN ?_)
       refine Tr.cond rfl (fun h8 => ?_) (fun h8 => ?_)
       ·try simp only [bs] at h8
        refine Tr.ret (Tr.thenR ?_)
        refine Tr.inR ?_
        refine Tr.thenR ?_
        refine Tr.inR ?_
        refine Tr.ret0 Try.results91 (fun w' hw => ?_)
        have hfin : pdq ltW cur a1 b1 l1 wb wp = p.1 := own_pdq_done (by omega) (by omega) hd1e hc hd2 hhint (by rw [if_pos (pi_yes h7), ← hp]; exact Prod.ext rfl (by assumption))
        exact ⟨rfl, by rw [← hk3, hfin]; exact HpOK.mutOwn hw (.head _) rfl⟩
       ·try simp only [bs] at h8
        refine Tr.skip (Tr.thenN ?_)
        apply Tr.joined p.1
        ·exact rfl
        ·exact Front.nil
        ·exact SubX.dropN 9 (by kernel_rfl) rfl
        ·exact (by repeat' constructor)
        ·exact ⟨hz3, by rw [if_pos (pi_yes h7)]; exact Prod.ext rfl (by assumption)⟩
      ·try simp only [bs] at h7
       refine Tr.skip (Tr.thenN ?_)
       apply Tr.joined d2
       ·exact rfl
       ·exact Front.nil
       ·exact SubX.dropN 5 (by kernel_rfl) rfl
       ·exact (by repeat' constructor)
       ·exact ⟨hpv.2.2, by rw [if_neg (pi_no h7)]⟩
     ·skip
      replace hi : d3.size = d.size ∧ (if wb && wp && hint = .increasing then partialInsertionSort ltW d2 a1 b1 else (d2, false)) = (d3, false) := hi
      change Tr _ _ [rowE V 22 encU32 d3.toList] ([] ++ _) _
      obtain ⟨hd3, hd3e⟩ := hi
      have hdl3 : d3.toList.length = d.size := by rw [Array.length_toList]; exact hd3
      have hR : Rnd cur a1 b1 l1 wb wp l2 pv d3 := ⟨d1, d2, c, hint, hd1e, hl2, hc, hd2, hpve, hhint, hd3e⟩
      have ea1 : ((a1 : Int) - 1).toNat = a1 - 1 ∨ a1 = 0 := by omega
      refine Tr.seq (Tr.seq ?_)
      refine Tr.regionQ HLF.mixed (by kernel_rfl) ?_
      refine TrQ.q (QS.move rfl) rfl ?_
      refine TrQ.q (QS.gtr rfl rfl) rfl ?_
      refine TrQ.q (QS.move rfl) rfl ?_
      apply TrQ.andP
      ·exact (rfl : _ = (12, 75, 87))
      ·exact rfl
      ·intro hT9; have hT9' := hT9
       try simp only [bs] at hT9'
       refine TrQ.gq rfl rfl hT9 (QS.move rfl) rfl ?_
       refine TrQ.gq rfl rfl hT9 (QS.move rfl) rfl ?_
       refine TrQ.gq rfl rfl hT9 (QS.subI rfl rfl (by omega)) rfl ?_
       refine TrQ.gq rfl rfl hT9 (QS.idxRow rfl rfl (by repeat constructor) Try.underlying34 Try.sizeOf22 (by rfl) (by omega)) rfl ?_
       refine TrQ.gq rfl rfl hT9 (QS.elR1 rfl (by repeat constructor) Try.isAgg22 (by omega) (by rfl)) rfl ?_
       refine TrQ.gq rfl rfl hT9 (QS.move rfl) rfl ?_
       refine TrQ.gq rfl rfl hT9 (QS.move rfl) rfl ?_
       refine TrQ.gq rfl rfl hT9 (QS.idxRowN rfl rfl (by repeat constructor) Try.underlying34 Try.sizeOf22 (by rfl) (by omega)) rfl ?_
       refine TrQ.gq rfl rfl hT9 (QS.elR1 rfl (by repeat constructor) Try.isAgg22 (by omega) (by rfl)) rfl ?_
       refine TrQ.gq rfl rfl hT9 (QS.call rfl Try.call100 (fun w hw => less_any (d3.toList.getD (((a1 : Int) - 1).toNat) default) (d3.toList.getD (pv) default) w)) rfl ?_
       refine TrQ.gq rfl rfl hT9 (QS.not rfl) rfl ?_
       refine TrQ.q (QS.pickT rfl hT9 rfl) rfl ?_
       exact TrQ.end (Sub.cons rfl (Sub.dropN 12 (by kernel_rfl) rfl))
      ·intro hF9
       refine TrQ.gskip rfl rfl hF9 rfl ?_
       refine TrQ.gskip rfl rfl hF9 rfl ?_
       refine TrQ.gskip rfl rfl hF9 rfl ?_
       refine TrQ.gskip rfl rfl hF9 rfl ?_
       refine TrQ.gskip rfl rfl hF9 rfl ?_
       refine TrQ.gskip rfl rfl hF9 rfl ?_
       refine TrQ.gskip rfl rfl hF9 rfl ?_
       refine TrQ.gskip rfl rfl hF9 rfl ?_
       refine TrQ.gskip rfl rfl hF9 rfl ?_
       refine TrQ.gskip rfl rfl hF9 rfl ?_
       refine TrQ.gskip rfl rfl hF9 rfl ?_
       refine TrQ.q (QS.pickF rfl hF9 rfl) rfl ?_
       exact TrQ.end (Sub.cons rfl (Sub.dropN 12 (by kernel_rfl) rfl))
      refine TrQ.nil ?_
      refine Tr.thenN ?_
      refine Tr.cond rfl (fun h10 => ?_) (fun h10 => ?_)
      ·try simp only [bs] at h10
       refine Tr.seq (Tr.region ?_)
       refine Tr.q (QS.move rfl) rfl ?_
       refine Tr.q (QS.move rfl) rfl ?_
       refine Tr.q (QS.move rfl) rfl ?_
       refine Tr.q (QS.move rfl) rfl ?_
       refine Tr.callMut rfl Try.call101 (by repeat constructor) (fun w hw => partitionEq_u32 d3 V a1 b1 pv _ _ _ rfl rfl rfl w (hw.ent _ (.head _)) (by omega) (by omega) (by omega) (by omega)) rfl ?_
       obtain ⟨p, hpe⟩ : ∃ p, p = partitionEqual ltW d3 a1 b1 pv := ⟨_, rfl⟩
       have hpr := partEq_rng (d := d3) (pv := pv) (show a1 + 1 < b1 by omega) (by omega)
       rw [← hpe] at hpr
       rw [← hpe]
       obtain ⟨mid, d4⟩ := p
       dsimp only at hpr ⊢
       refine Tr.rowLen hr (.head _) (fun hq => ?_)
       have hz4 : d4.size = d.size := by rw [← Array.length_toList, ← Array.length_toList]; exact hq
       refine Tr.q (QS.assign rfl) rfl ?_
       refine Tr.nil (Tr.thenN (Tr.seq (Tr.region ?_)))
       refine Tr.q (QS.move rfl) rfl ?_
       refine Tr.q (QS.assign rfl) rfl ?_
       refine Tr.nil (Tr.thenN ?_)
       refine Tr.exit ?_
       refine Tr.thenE (Tr.inHit (Tr.thenN ?_))
       apply Tr.again (mid, b1, l2, wb, wp, d4)
       ·exact rfl
       ·exact (.cons (by first | rfl | exact lookI rfl (by omega) | exact lookB rfl (decide_eq_decide.2 (by omega)) | exact lookI rfl (by simp) | exact lookB rfl (by simp)) (.cons (by first | rfl | exact lookI rfl (by omega) | exact lookB rfl (decide_eq_decide.2 (by omega)) | exact lookI rfl (by simp) | exact lookB rfl (by simp)) (.cons (by first | rfl | exact lookI rfl (by omega) | exact lookB rfl (decide_eq_decide.2 (by omega)) | exact lookI rfl (by simp) | exact lookB rfl (by simp)) (.cons (by first | rfl | exact lookI rfl (by omega) | exact lookB rfl (decide_eq_decide.2 (by omega)) | exact lookI rfl (by simp) | exact lookB rfl (by simp)) (.cons (by first | rfl | exact lookI rfl (by omega) | exact lookB rfl (decide_eq_decide.2 (by omega)) | exact lookI rfl (by simp) | exact lookB rfl (by simp)) Front.nil)))))
       ·exact SubX.dropN 37 (by kernel_rfl) rfl
       ·exact (by repeat' constructor)
       ·exact ⟨by show a ≤ mid ∧ mid ≤ b1 ∧ b1 ≤ b ∧ l2 ≤ 64; omega, hz4, by rw [← hk3]; exact (pdq_eqv (by omega) (by omega) hR (by omega) (by rw [← bang, ← bang, ← ea1.resolve_right (by omega)]; simp_all) hpe.symm (by omega)).symm⟩
       ·exact (by show b1 - mid < m; omega)
      ·try simp only [bs] at h10
       refine Tr.skip (Tr.thenN (Tr.seq ?_))
       have hcond : a1 = 0 ∨ ltW d3[a1 - 1]! d3[pv]! = true := by
        rcases Nat.eq_zero_or_pos a1 with q | q
        ·exact .inl q
        ·right
         rw [← bang, ← bang, ← ea1.resolve_right (by omega)]
         simp_all
       refine Tr.region ?_
       refine Tr.q (QS.move rfl) rfl ?_
       refine Tr.q (QS.move rfl) rfl ?_
       refine Tr.q (QS.move rfl) rfl ?_
       refine Tr.q (QS.move rfl) rfl ?_
       refine Tr.callMut rfl Try.call102 (by repeat constructor) (fun w hw => partition_u32 d3 V a1 b1 pv _ _ _ rfl rfl rfl w (hw.ent _ (.head _)) (by omega) (by omega) (by omega) (by omega)) rfl ?_
       obtain ⟨p, hpt⟩ : ∃ p, p = partition ltW d3 a1 b1 pv := ⟨_, rfl⟩
       have hpr := part_rng (d := d3) (a := a1) (b := b1) (pv := pv) (by omega) (by omega) (by omega)
       rw [← hpt] at hpr
       rw [← hpt]
       obtain ⟨mid, ap, d4⟩ := p
       dsimp only at hpr ⊢
       refine Tr.rowLen hr (.head _) (fun hq => ?_)
       have hz4 : d4.size = d.size := by rw [← Array.length_toList, ← Array.length_toList]; exact hq
       refine Tr.q (QS.move rfl) rfl ?_
       refine Tr.q (QS.extract rfl rfl) rfl ?_
       refine Tr.q (QS.extract rfl rfl) rfl ?_
       refine Tr.q (QS.assign rfl) rfl ?_
       refine Tr.q (QS.assign rfl) rfl ?_
       refine Tr.nil (Tr.thenN (Tr.seq (Tr.region ?_)))
       refine Tr.q (QS.move rfl) rfl ?_
       refine Tr.q (QS.assign rfl) rfl ?_
       refine Tr.nil (Tr.thenN (Tr.seq (Tr.region ?_)))
       refine Tr.q (QS.move rfl) rfl ?_
       refine Tr.q (QS.move rfl) rfl ?_
       refine Tr.q (QS.subI rfl rfl (by omega)) rfl ?_
       refine Tr.q (QS.move rfl) rfl ?_
       refine Tr.q (QS.move rfl) rfl ?_
       refine Tr.q (QS.subI rfl rfl (by omega)) rfl ?_
       refine Tr.q (QS.assign rfl) rfl ?_
       refine Tr.q (QS.assign rfl) rfl ?_
       refine Tr.nil (Tr.thenN (Tr.seq (Tr.region ?_)))
       refine Tr.q (QS.move rfl) rfl ?_
       refine Tr.q (QS.quoI rfl rfl (by omega)) rfl ?_
       refine Tr.q (QS.assign rfl) rfl ?_
       refine Tr.nil (Tr.thenN (Tr.seq (Tr.region ?_)))
       refine Tr.q (QS.move rfl) rfl ?_
       refine Tr.q (QS.move rfl) rfl ?_
       refine Tr.q (QS.lss rfl rfl) rfl ?_
       refine Tr.nil (Tr.thenN ?_)
       refine Tr.cond rfl (fun h11 => ?_) (fun h11 => ?_)
       ·try simp only [bs] at h11
        refine Tr.seq (Tr.region ?_)
        refine Tr.q (QS.move rfl) rfl ?_
        refine Tr.q (QS.move rfl) rfl ?_
        refine Tr.q (QS.geq rfl rfl) rfl ?_
        refine Tr.q (QS.assign rfl) rfl ?_
        refine Tr.nil (Tr.thenN (Tr.seq (Tr.region ?_)))
        refine Tr.q (QS.move rfl) rfl ?_
        refine Tr.q (QS.move rfl) rfl ?_
        refine Tr.q (QS.move rfl) rfl ?_
        refine Tr.q (QS.move rfl) rfl ?_
        refine Tr.callMut rfl Try.call91 (by repeat constructor) (fun w hw => ih d4 a1 mid l2 _ _ _ w rfl rfl rfl (hw.ent _ (.head _)) (by omega) (by omega) (by omega) (by omega) (by omega)) rfl ?_
        refine Tr.rowLen hr (.head _) (fun hq => ?_)
        have hz5 : (pdq ltW d4 a1 mid l2 true true).size = d.size := by rw [← Array.length_toList, ← Array.length_toList]; exact hq
        refine Tr.nil (Tr.thenN (Tr.region ?_))
        refine Tr.q (QS.move rfl) rfl ?_
        refine Tr.q (QS.addI rfl rfl (by omega)) rfl ?_
        refine Tr.q (QS.assign rfl) rfl ?_
        refine Tr.nil (Tr.inN (Tr.thenN ?_))
        apply Tr.again (mid + 1, b1, l2, decide (mid - a1 ≥ (b1 - a1) / 8), ap, pdq ltW d4 a1 mid l2 true true)
        ·exact rfl
        ·exact (.cons (by first | rfl | exact lookI rfl (by omega) | exact lookB rfl (decide_eq_decide.2 (by omega)) | exact lookI rfl (by simp) | exact lookB rfl (by simp)) (.cons (by first | rfl | exact lookI rfl (by omega) | exact lookB rfl (decide_eq_decide.2 (by omega)) | exact lookI rfl (by simp) | exact lookB rfl (by simp)) (.cons (by first | rfl | exact lookI rfl (by omega) | exact lookB rfl (decide_eq_decide.2 (by omega)) | exact lookI rfl (by simp) | exact lookB rfl (by simp)) (.cons (by first | rfl | exact lookI rfl (by omega) | exact lookB rfl (decide_eq_decide.2 (by omega)) | exact lookI rfl (by simp) | exact lookB rfl (by simp)) (.cons (by first | rfl | exact lookI rfl (by omega) | exact lookB rfl (decide_eq_decide.2 (by omega)) | exact lookI rfl (by simp) | exact lookB rfl (by simp)) Front.nil)))))
        ·exact SubX.dropN 67 (by kernel_rfl) rfl
        ·exact (by repeat' constructor)
        ·exact ⟨by show a ≤ mid + 1 ∧ mid + 1 ≤ b1 ∧ b1 ≤ b ∧ l2 ≤ 64; omega, hz5, by rw [← hk3]; exact (own_pdq_left (by omega) (by omega) hR hcond hpt.symm (by omega) (by omega)).symm⟩
        ·exact (by show b1 - (mid + 1) < m; omega)
       ·try simp only [bs] at h11
        refine Tr.seq (Tr.region ?_)
        refine Tr.q (QS.move rfl) rfl ?_
        refine Tr.q (QS.move rfl) rfl ?_
        refine Tr.q (QS.geq rfl rfl) rfl ?_
        refine Tr.q (QS.assign rfl) rfl ?_
        refine Tr.nil (Tr.thenN (Tr.seq (Tr.region ?_)))
        refine Tr.q (QS.move rfl) rfl ?_
        refine Tr.q (QS.move rfl) rfl ?_
        refine Tr.q (QS.addI rfl rfl (by omega)) rfl ?_
        refine Tr.q (QS.move rfl) rfl ?_
        refine Tr.q (QS.move rfl) rfl ?_
        refine Tr.callMut rfl Try.call91 (by repeat constructor) (fun w hw => ih d4 (mid + 1) b1 l2 _ _ _ w (by omega) rfl rfl (hw.ent _ (.head _)) (by omega) (by omega) (by omega) (by omega) (by omega)) rfl ?_
        refine Tr.rowLen hr (.head _) (fun hq => ?_)
        have hz5 : (pdq ltW d4 (mid + 1) b1 l2 true true).size = d.size := by rw [← Array.length_toList, ← Array.length_toList]; exact hq
        refine Tr.nil (Tr.thenN (Tr.region ?_))
        refine Tr.q (QS.move rfl) rfl ?_
        refine Tr.q (QS.assign rfl) rfl ?_
        refine Tr.nil (Tr.inN (Tr.thenN ?_))
        apply Tr.again (a1, mid, l2, decide (b1 - mid ≥ (b1 - a1) / 8), ap, pdq ltW d4 (mid + 1) b1 l2 true true)
        ·exact rfl
        ·exact (.cons (by first | rfl | exact lookI rfl (by omega) | exact lookB rfl (decide_eq_decide.2 (by omega)) | exact lookI rfl (by simp) | exact lookB rfl (by simp)) (.cons (by first | rfl | exact lookI rfl (by omega) | exact lookB rfl (decide_eq_decide.2 (by omega)) | exact lookI rfl (by simp) | exact lookB rfl (by simp)) (.cons (by first | rfl | exact lookI rfl (by omega) | exact lookB rfl (decide_eq_decide.2 (by omega)) | exact lookI rfl (by simp) | exact lookB rfl (by simp)) (.cons (by first | rfl | exact lookI rfl (by omega) | exact lookB rfl (decide_eq_decide.2 (by omega)) | exact lookI rfl (by simp) | exact lookB rfl (by simp)) (.cons (by first | rfl | exact lookI rfl (by omega) | exact lookB rfl (decide_eq_decide.2 (by omega)) | exact lookI rfl (by simp) | exact lookB rfl (by simp)) Front.nil)))))
        ·exact SubX.dropN 67 (by kernel_rfl) rfl
        ·exact (by repeat' constructor)
        ·exact ⟨by show a ≤ a1 ∧ a1 ≤ mid ∧ mid ≤ b ∧ l2 ≤ 64; omega, hz5, by rw [← hk3]; exact (own_pdq_right (by omega) (by omega) hR hcond hpt.symm (by omega) (by omega)).symm⟩
        ·exact (by show mid - a1 < m; omega)
theorem pdq_u32 (V : Value) : ∀ (n : Nat) (d : Array UInt32) (a b limit : Nat) (ai bi li : Int) (w : World), ai = ((a : Nat) : Int) → bi = ((b : Nat) : Int) → li = ((limit : Nat) : Int) → (rowE V 22 encU32 d.toList).holds w → d.size ≤ 1000000 → a ≤ b → b ≤ d.size → limit ≤ 64 → b - a < n → Calls Try.prog 91 #[V, .int .i64 ai, .int .i64 bi, .int .i64 li] w (fun e w' => e = .returned (.tuple #[]) ∧ Mut w w' V ∧ (rowE V 22 encU32 (pdq ltW d a b limit true true).toList).holds w')
 | 0, _, _, _, _, _, _, _, _, _, _, _, _, _, _, _, _, h => absurd h (Nat.not_lt_zero _)
 | n + 1, d, a, b, limit, ai, bi, li, w, e1, e2, e3, hr, hd, hab, hb, hl, h => pdq_step V n (pdq_u32 V n) d a b limit ai bi li e1 e2 e3 w hr hd hab hb hl (Nat.le_of_lt_succ h)
set_option maxRecDepth 100000 in
set_option maxHeartbeats 2000000 in
theorem sortU_any (d : Array UInt32) (V : Value) (w : World) (hr : (rowE V 22 encU32 d.toList).holds w) (hd : d.size ≤ 1000000) :
  Calls Try.prog 84 #[V] w (fun e w' => e = .returned (.tuple #[]) ∧ Mut w w' V ∧ (rowE V 22 encU32 (sort ltW d).toList).holds w') := by
 have hdl : d.toList.length = d.size := Array.length_toList
 have hb20 : bitsLen d.size ≤ 20 := (bitsLen_le_iff _ 20).2 (by omega)
 refine enterOwn (l := d.toList) (E := encU32) (T := 22) hr Try.func84 rfl Try.ntmps84 rfl ?_
 refine Tr.seq (Tr.region ?_)
 refine Tr.q (QS.move rfl) rfl ?_
 refine Tr.q (QS.lenRow rfl (by repeat constructor) Try.underlying34) rfl ?_
 refine Tr.q (QS.assign rfl) rfl ?_
 refine Tr.nil (Tr.thenN (Tr.region ?_))
 refine Tr.q (QS.move rfl) rfl ?_
 refine Tr.q (QS.move rfl) rfl ?_
 refine Tr.q (QS.move rfl) rfl ?_
 refine Tr.q (QS.cvtIn rfl Try.underlying3 Try.underlying119 (IntWalk.u64_in _ (by omega))) rfl ?_
 refine Tr.q (QS.call rfl Try.call92 (fun w hw => lenU d.size _ (by omega) (by omega) w)) rfl ?_
 refine Tr.callMut rfl Try.call91 (by repeat constructor) (fun w hw => pdq_u32 V _ d 0 d.size (bitsLen d.size) _ _ _ w rfl (by omega) rfl (hw.ent _ (.head _)) hd (by omega) (by omega) (by omega) (Nat.lt_succ_self _)) rfl ?_
 refine Tr.nil ?_
 refine Tr.ret0n Try.results84 (fun w' hw => ?_)
 exact ⟨rfl, HpOK.mutOwn hw (.head _) rfl⟩
end Go.Proofs.Ytpeaodkfbjenpaa
namespace Go.Proofs
open Go.Shelf
def Try.mclone_ren : Go.Shelf.Ren := ⟨fun | 5 => 58 | 7 => 68 | n => n, fun | 23 => 31 | 25 => 22 | 3 => 5 | 4 => 4 | 20 => 20 | n => n, fun | n => n⟩
theorem Try.mclone : Go.Proofs.SlLaysW.n5 Try.prog Try.mclone_ren := {
  mixed := by kernel_rfl
  f5 := ⟨Try.f58.name, by decide, Try.func58.trans (congrArg some (by kernel_rfl))⟩
  f7 := Try.func68.trans (congrArg some (by kernel_rfl))
  t4 := Try.underlying4
  a4 := Try.isAgg4
  z4 := Try.sizeOf4
  v4 := Try.zeroValue4
  t20 := Try.underlying20
  a20 := Try.isAgg20
  z20 := Try.sizeOf20
  v20 := Try.zeroValue20
  t23 := Try.underlying31
  a23 := Try.isAgg31
  z23 := Try.sizeOf31
  v23 := Try.zeroValue31 }
end Go.Proofs
