/- Own rules and walks, part 4. -/
import Derived.Test.YtiajjbhcpeadfaaGreatB3
set_option linter.unusedSimpArgs false
set_option linter.unusedVariables false
set_option linter.unusedSectionVars false
set_option maxRecDepth 100000
set_option maxHeartbeats 16000000
namespace Go.HL
open Go
structure TabV where
 data : List UInt32
 dp : Option Addr
 dc : Nat
 deriving Inhabited
def f9 : Enc TabV := ⟨1, fun t => [.slice t.dp t.data.length t.dc], fun _ => rfl, fun x v h => by simp at h; subst h; rfl⟩
def TabIn (h : Hp) (l : List TabV) : Prop := ∀ t ∈ l, Sl h ar t.data (.slice t.dp t.data.length t.dc)
theorem TabIn.mono {h h' : Hp} {l : List TabV} (d : TabIn h l) (hh : Hp.le h h') : TabIn h' l := fun s hs => (d s hs).mono hh
def pg (ts : List TabV) : Prop := ts.length ≤ 700 ∧ ∀ t ∈ ts, t.data.length ≤ 64
def B9 (l : List SecV) (a : UInt32) : List UInt8 := ((l.getD (cO l a).toNat default).data.drop (a - (l.getD (cO l a).toNat default).addr).toNat).take 6
def Cz (l : List SecV) (a : UInt32) : Bool := decide (cO l a < 0) || !(l.getD (cO l a).toNat default).ex
def atP (l : List SecV) (a : UInt32) : Ins × Bool := if Cz l a = true then (cx, false) else ((nm (B9 l a) a).1, decide ((nm (B9 l a) a).2 = 0))
def uG (op : Int) : Bool := decide (op = 21 ∨ op = 22 ∨ op = 24)
def fw (ts : List TabV) (at_ : List UInt32) (a : UInt32) : Option (List UInt32) :=
 if dW (fun x => decide (a = x)) 0 at_ < 0 then none else some (ts.getD (dW (fun x => decide (a = x)) 0 at_).toNat default).data
def dN (i : Ins) : List UInt32 := if iZ i = 0 then (if (de i).2 = true then [(de i).1] else []) ++ (if lk i = true then [] else [ow i]) else []
def ka (ts : List TabV) (at_ : List UInt32) (i : Ins) : List UInt32 := dN i ++ (if uG i.op = true then (fw ts at_ i.addr).getD [] else [])
def j2 (ts : List TabV) (at_ : List UInt32) (i : Ins) : List UInt32 := if i.op = 23 then [i.imm] else if i.op = 24 then (fw ts at_ i.addr).getD [] else []
def pT (ts : List TabV) (at_ : List UInt32) (i : Ins) : Bool := uG i.op && (fw ts at_ i.addr).isNone
def rX (ts : List TabV) (at_ : List UInt32) (a : UInt32) : Value :=
 if dW (fun x => decide (a = x)) 0 at_ < 0 then .slice none 0 0 else
  .slice (ts.getD (dW (fun x => decide (a = x)) 0 at_).toNat default).dp (ts.getD (dW (fun x => decide (a = x)) 0 at_).toNat default).data.length (ts.getD (dW (fun x => decide (a = x)) 0 at_).toNat default).dc
section
variable {ts : List TabV} {at_ : List UInt32} {a : UInt32}
theorem vZ (h : dW (fun x => decide (a = x)) 0 at_ < 0) : rX ts at_ a = .slice none 0 0 := by unfold rX; rw [if_pos h]
theorem v6 (h : dW (fun x => decide (a = x)) 0 at_ < 0) : fw ts at_ a = none := by unfold fw; rw [if_pos h]
theorem uC (h : ¬ dW (fun x => decide (a = x)) 0 at_ < 0) : rX ts at_ a = .slice (ts.getD (dW (fun x => decide (a = x)) 0 at_).toNat default).dp (ts.getD (dW (fun x => decide (a = x)) 0 at_).toNat default).data.length (ts.getD (dW (fun x => decide (a = x)) 0 at_).toNat default).dc := by unfold rX; rw [if_neg h]
theorem uD (h : ¬ dW (fun x => decide (a = x)) 0 at_ < 0) : fw ts at_ a = some (ts.getD (dW (fun x => decide (a = x)) 0 at_).toNat default).data := by unfold fw; rw [if_neg h]
theorem Ek {H : Hp} (hTI : TabIn H ts) (hTB : pg ts) (hl : ts.length = at_.length) : Sl H ar ((fw ts at_ a).getD []) (rX ts at_ a) := by
 by_cases h : dW (fun x => decide (a = x)) 0 at_ < 0
 ·rw [v6 h, vZ h]; exact Sl.nil _ _
 ·rw [uD h, uC h]
  have := jP (fun x => decide (a = x)) at_ 0
  exact hTI _ (cZ (by omega))
end
theorem jZ (i : Ins) : (dN i).length ≤ 2 := by
 unfold dN
 repeat' split
 all_goals simp
theorem rW {ts : List TabV} (hT : pg ts) (at_ : List UInt32) (a : UInt32) : ((fw ts at_ a).getD []).length ≤ 64 := by
 unfold fw
 split
 ·simp
 ·simp only [Option.getD_some]
  by_cases h : (dW (fun x => decide (a = x)) 0 at_).toNat < ts.length
  ·exact hT.2 _ (cZ h)
  ·rw [List.getD_eq_getElem?_getD, List.getElem?_eq_none (by omega)]; exact Nat.zero_le _
theorem uA {ts : List TabV} (hT : pg ts) (at_ : List UInt32) (i : Ins) : (ka ts at_ i).length ≤ 66 := by
 have h1 := jZ i
 have h2 := rW hT at_ i.addr
 unfold ka
 rw [List.length_append]
 split
 ·omega
 ·simp; omega
theorem BS {l : List SecV} {a : UInt32} (h : (atP l a).2 = true) : (atP l a).1.addr = a ∧ Cz l a = false ∧ (nm (B9 l a) a).2 = 0 := by
 unfold atP at h ⊢
 split at h
 ·cases h
 ·rename_i hn
  rw [if_neg hn]
  have h' := of_decide_eq_true h
  exact ⟨(EM h').2.2, by simpa using hn, h'⟩
inductive Reach (l : List SecV) (ts : List TabV) (at_ es : List UInt32) : UInt32 → Prop
 | ent (a : UInt32) (h : a ∈ es) : Reach l ts at_ es a
 | step (b a : UInt32) (h : Reach l ts at_ es b) (hf : (atP l b).2 = true) (ha : a ∈ ka ts at_ (atP l b).1) : Reach l ts at_ es a
structure CodeP where
 ins : List Ins
 ents : List UInt32
 unk : List UInt32
 bad : List UInt32
structure IsCode (l : List SecV) (ts : List TabV) (at_ es : List UInt32) (c : CodeP) : Prop where
 ins : ∃ ks : List UInt32, ks.Pairwise (· < ·) ∧ (∀ a, a ∈ ks ↔ Reach l ts at_ es a ∧ (atP l a).2 = true) ∧ c.ins = ks.map fun a => (atP l a).1
 bad : c.bad.Pairwise (· < ·) ∧ ∀ a, a ∈ c.bad ↔ Reach l ts at_ es a ∧ (atP l a).2 = false
 ents : c.ents.Pairwise (· < ·) ∧ ∀ a, a ∈ c.ents ↔ (Reach l ts at_ es a ∧ (atP l a).2 = true) ∧ (a ∈ es ∨ ∃ b, (Reach l ts at_ es b ∧ (atP l b).2 = true) ∧ a ∈ j2 ts at_ (atP l b).1)
 unk : c.unk.Pairwise (· < ·) ∧ ∀ a, a ∈ c.unk ↔ (Reach l ts at_ es a ∧ (atP l a).2 = true) ∧ pT ts at_ (atP l a).1 = true
inductive WalkIs (l : List SecV) (ts : List TabV) (at_ es : List UInt32) (c : CodeP) (e : Int) : Prop
 | arg (h : ts.length ≠ at_.length) (he : e = 2) (hc : c = ⟨[], [], [], []⟩) : WalkIs l ts at_ es c e
 | chk (h : ts.length = at_.length) (h1 : gP l ≠ 0) (he : e = gP l) (hc : c = ⟨[], [], [], []⟩) : WalkIs l ts at_ es c e
 | ok (h : ts.length = at_.length) (h1 : gP l = 0) (he : e = 0) (hc : IsCode l ts at_ es c) : WalkIs l ts at_ es c e
theorem GT {l : List UInt32} (h : l.Pairwise (· < ·)) : l.Pairwise (fun x y => x ≤ y) := h.imp fun h => by rw [UInt32.lt_iff_toNat_lt] at h; rw [UInt32.le_iff_toNat_le]; omega
theorem q7 {l : List UInt32} (h : l.Pairwise (· < ·)) : l.Nodup := h.imp fun h e => by subst e; simp at h
theorem xO {l l' : List UInt32} (h : l.Pairwise (· < ·)) (h' : l'.Pairwise (· < ·)) (hm : ∀ a, a ∈ l ↔ a ∈ l') : l = l' :=
 rM ((List.perm_ext_iff_of_nodup (q7 h) (q7 h')).2 hm) (GT h) (GT h')
theorem qI {l : List UInt32} (h : l.Nodup) : (f8 l).Pairwise (· < ·) := by
 have h1 := mf l
 have h2 : (f8 l).Nodup := (lD l).nodup_iff.2 h
 exact (List.pairwise_and_iff.2 ⟨h1, h2⟩).imp fun ⟨a, b⟩ => by
  rw [UInt32.le_iff_toNat_le] at a
  rw [UInt32.lt_iff_toNat_lt]
  have : ¬ (_ : UInt32).toNat = (_ : UInt32).toNat := fun e => b (UInt32.toNat_inj.1 e)
  omega
theorem nh {l : List UInt32} {a : UInt32} : a ∈ f8 l ↔ a ∈ l := (lD l).mem_iff
theorem IsCode.eq {l : List SecV} {ts : List TabV} {at_ es es' : List UInt32} {c c' : CodeP} (h : IsCode l ts at_ es c) (h' : IsCode l ts at_ es' c') (hr : ∀ a, Reach l ts at_ es a ↔ Reach l ts at_ es' a) (he : ∀ a, a ∈ es ↔ a ∈ es') : c = c' := by
 obtain ⟨ks, k1, k2, k3⟩ := h.ins
 obtain ⟨ks', k1', k2', k3'⟩ := h'.ins
 have e1 : ks = ks' := xO k1 k1' fun a => by rw [k2, k2', hr]
 have e2 : c.bad = c'.bad := xO h.bad.1 h'.bad.1 fun a => by rw [h.bad.2, h'.bad.2, hr]
 have e3 : c.unk = c'.unk := xO h.unk.1 h'.unk.1 fun a => by rw [h.unk.2, h'.unk.2, hr]
 have e4 : c.ents = c'.ents := xO h.ents.1 h'.ents.1 fun a => by rw [h.ents.2, h'.ents.2, hr, he]; simp only [hr]
 cases c; cases c'
 simp only at *
 rw [k3, k3', e1, e2, e3, e4]
theorem iW {α : Type} {m : List (UInt32 × α)} {k j : UInt32} {x : α} : j ∈ (fg m k x).map (·.1) ↔ j = k ∨ j ∈ m.map (·.1) := by
 rw [rT]
 split
 ·rename_i h
  constructor
  ·exact .inr
  ·rintro (rfl | h')
   ·exact kJ.1 h
   ·exact h'
 ·simp only [List.mem_append, List.mem_singleton]
  exact ⟨fun h => h.symm, fun h => h.symm⟩
def gA (m : List (UInt32 × Bool)) (ks : List UInt32) : List (UInt32 × Bool) := ks.foldl (fun m k => fg m k true) m
theorem rU : ∀ (ks : List UInt32) (m : List (UInt32 × Bool)) {j : UInt32}, j ∈ (gA m ks).map (·.1) ↔ j ∈ ks ∨ j ∈ m.map (·.1)
 | [], m, j => by simp [gA]
 | k :: ks, m, j => by
  have ih := rU ks (fg m k true) (j := j)
  show j ∈ (gA (fg m k true) ks).map (·.1) ↔ _
  rw [ih, iW, List.mem_cons]
  constructor
  ·rintro (h | h | h)
   ·exact .inl (.inr h)
   ·exact .inl (.inl h)
   ·exact .inr h
  ·rintro ((h | h) | h)
   ·exact .inr (.inl h)
   ·exact .inl h
   ·exact .inr (.inr h)
theorem ut (m : List (UInt32 × Bool)) (ks : List UInt32) (k : UInt32) : gA m (ks ++ [k]) = fg (gA m ks) k true := by simp [gA]
theorem AS {ts : List TabV} {at_ : List UInt32} {i : Ins} {ents m1 : List (UInt32 × Bool)} (h : m1 = if i.op = 23 then fg ents i.imm true else ents) (hn : uG i.op = false) : gA ents (j2 ts at_ i) = m1 := by
 have hq : ¬ i.op = 24 := fun e => by unfold uG at hn; rw [e] at hn; exact absurd hn (by decide)
 subst h
 unfold j2
 rw [if_neg hq]
 split <;> rfl
theorem EX {ts : List TabV} {at_ : List UInt32} {i : Ins} {ents m1 m2 : List (UInt32 × Bool)} (h : m1 = if i.op = 23 then fg ents i.imm true else ents) (h2 : m2 = if i.op = 24 then gA m1 ((fw ts at_ i.addr).getD []) else m1) (hn : uG i.op = true) : gA ents (j2 ts at_ i) = m2 := by
 have hq : ¬ i.op = 23 := fun e => by unfold uG at hn; rw [e] at hn; exact absurd hn (by decide)
 rw [if_neg hq] at h
 subst h
 subst h2
 unfold j2
 rw [if_neg hq]
 split <;> rfl
theorem Fz {ts : List TabV} {at_ : List UInt32} {i : Ins} {unk u1 : List (UInt32 × Bool)} (h : u1 = if (fw ts at_ i.addr).isSome = true then unk else fg unk i.addr true) (hn : uG i.op = true) : (if pT ts at_ i = true then fg unk i.addr true else unk) = u1 := by
 subst h
 unfold pT
 rw [hn, Bool.true_and]
 cases fw ts at_ i.addr <;> rfl
theorem rS : ∀ (ks : List UInt32) (m : List (UInt32 × Bool)), (gA m ks).length ≤ m.length + ks.length
 | [], m => by simp [gA]
 | k :: ks, m => by
  have ih := rS ks (fg m k true)
  have := uv m k true
  show (gA (fg m k true) ks).length ≤ _
  rw [List.length_cons]; omega
structure DSt where
 ins : List (UInt32 × Ins)
 bad : List (UInt32 × Bool)
 ents : List (UInt32 × Bool)
 unk : List (UInt32 × Bool)
 rest : List UInt32
def stepD (l : List SecV) (ts : List TabV) (at_ : List UInt32) (a : UInt32) (s : DSt) (r : List UInt32) : DSt :=
 ⟨fg s.ins a (atP l a).1, s.bad, gA s.ents (j2 ts at_ (atP l a).1), if pT ts at_ (atP l a).1 = true then fg s.unk (atP l a).1.addr true else s.unk, r ++ ka ts at_ (atP l a).1⟩
structure DInv (l : List SecV) (ts : List TabV) (at_ es : List UInt32) (s : DSt) : Prop where
 nIns : (s.ins.map (·.1)).Nodup
 nBad : (s.bad.map (·.1)).Nodup
 nEnts : (s.ents.map (·.1)).Nodup
 nUnk : (s.unk.map (·.1)).Nodup
 ins : ∀ k x, dK s.ins k = some x → Reach l ts at_ es k ∧ (atP l k).2 = true ∧ x = (atP l k).1
 bad : ∀ k x, dK s.bad k = some x → Reach l ts at_ es k ∧ (atP l k).2 = false ∧ x = true
 rest : ∀ a ∈ s.rest, Reach l ts at_ es a
 start : ∀ a ∈ es, a ∈ s.ins.map (·.1) ∨ a ∈ s.bad.map (·.1) ∨ a ∈ s.rest
 close : ∀ k ∈ s.ins.map (·.1), ∀ a ∈ ka ts at_ (atP l k).1, a ∈ s.ins.map (·.1) ∨ a ∈ s.bad.map (·.1) ∨ a ∈ s.rest
 ents : ∀ a, a ∈ s.ents.map (·.1) ↔ a ∈ es ∨ ∃ k ∈ s.ins.map (·.1), a ∈ j2 ts at_ (atP l k).1
 unk : ∀ a, a ∈ s.unk.map (·.1) ↔ a ∈ s.ins.map (·.1) ∧ pT ts at_ (atP l a).1 = true
 lRest : s.rest.length + s.bad.length ≤ es.length + 66 * s.ins.length
 lEnts : s.ents.length ≤ es.length + 66 * s.ins.length
 lUnk : s.unk.length ≤ s.ins.length
section
variable {l : List SecV} {ts : List TabV} {at_ es : List UInt32} {s : DSt} {r : List UInt32} {a : UInt32}
theorem nQ {α : Type} {m : List (UInt32 × α)} {k : UInt32} (h : k ∈ m.map (·.1)) : ∃ x, dK m k = some x := Option.isSome_iff_exists.1 (kJ.2 h)
theorem xo {α : Type} {m : List (UInt32 × α)} {k : UInt32} {x : α} (h : dK m k = some x) : k ∈ m.map (·.1) := kJ.1 (by rw [h]; rfl)
theorem DInv.begin : DInv l ts at_ es ⟨[], [], gA [] es, [], es⟩ := by
 refine ⟨List.nodup_nil, List.nodup_nil, ?_, List.nodup_nil, fun k x h => by simp [dK] at h, fun k x h => by simp [dK] at h, fun a h => .ent a h, fun a h => .inr (.inr h), fun k h => by simp at h, fun a => ?_, fun a => by simp, by simp, ?_, by simp⟩
 ·have : ∀ (ks : List UInt32) (m : List (UInt32 × Bool)), (m.map (·.1)).Nodup → ((gA m ks).map (·.1)).Nodup := by
   intro ks
   induction ks with
   | nil => intro m h; exact h
   | cons k ks ih => intro m h; exact ih _ (lR k true h)
  exact this es [] List.nodup_nil
 ·show a ∈ (gA [] es).map (·.1) ↔ _
  rw [rU]; simp
 ·have := rS es []
  simpa using this
theorem DInv.skip (h : DInv l ts at_ es s) (hr : s.rest = r ++ [a]) (hk : a ∈ s.ins.map (·.1) ∨ a ∈ s.bad.map (·.1)) : DInv l ts at_ es { s with rest := r } := by
 have mv : ∀ b, b ∈ s.ins.map (·.1) ∨ b ∈ s.bad.map (·.1) ∨ b ∈ s.rest → b ∈ s.ins.map (·.1) ∨ b ∈ s.bad.map (·.1) ∨ b ∈ r := by
  rintro b (h1 | h1 | h1)
  ·exact .inl h1
  ·exact .inr (.inl h1)
  ·rw [hr] at h1
   rcases List.mem_append.1 h1 with h2 | h2
   ·exact .inr (.inr h2)
   ·rw [List.mem_singleton.1 h2]
    rcases hk with hk | hk
    ·exact .inl hk
    ·exact .inr (.inl hk)
 refine ⟨h.nIns, h.nBad, h.nEnts, h.nUnk, h.ins, h.bad, fun b hb => h.rest b (by rw [hr]; exact List.mem_append_left _ hb), fun b hb => mv b (h.start b hb), fun k hk b hb => mv b (h.close k hk b hb), h.ents, h.unk, ?_, h.lEnts, h.lUnk⟩
 have := h.lRest
 rw [hr, List.length_append, List.length_singleton] at this
 show r.length + s.bad.length ≤ es.length + 66 * s.ins.length
 omega
theorem DInv.isBad (h : DInv l ts at_ es s) (hr : s.rest = r ++ [a]) (hf : (atP l a).2 = false) : DInv l ts at_ es { s with rest := r, bad := fg s.bad a true } := by
 have mv : ∀ b, b ∈ s.ins.map (·.1) ∨ b ∈ s.bad.map (·.1) ∨ b ∈ s.rest → b ∈ s.ins.map (·.1) ∨ b ∈ (fg s.bad a true).map (·.1) ∨ b ∈ r := by
  rintro b (h1 | h1 | h1)
  ·exact .inl h1
  ·exact .inr (.inl (iW.2 (.inr h1)))
  ·rw [hr] at h1
   rcases List.mem_append.1 h1 with h2 | h2
   ·exact .inr (.inr h2)
   ·exact .inr (.inl (iW.2 (.inl (List.mem_singleton.1 h2))))
 refine ⟨h.nIns, lR a true h.nBad, h.nEnts, h.nUnk, h.ins, fun k x hx => ?_, fun b hb => h.rest b (by rw [hr]; exact List.mem_append_left _ hb), fun b hb => mv b (h.start b hb), fun k hk b hb => mv b (h.close k hk b hb), h.ents, h.unk, ?_, h.lEnts, h.lUnk⟩
 ·have hx' : dK (fg s.bad a true) k = some x := hx
  rw [ux] at hx'
  split at hx'
  ·rename_i e
   subst e
   cases hx'
   exact ⟨h.rest k (by rw [hr]; simp), hf, rfl⟩
  ·exact h.bad k x hx'
 ·have := h.lRest
  have h2 := uv s.bad a true
  rw [hr, List.length_append, List.length_singleton] at this
  show r.length + (fg s.bad a true).length ≤ es.length + 66 * s.ins.length
  omega
theorem DInv.found (hT : pg ts) (h : DInv l ts at_ es s) (hr : s.rest = r ++ [a]) (hf : (atP l a).2 = true) (hn : a ∉ s.ins.map (·.1)) : DInv l ts at_ es (stepD l ts at_ a s r) := by
 have ha := (BS hf).1
 have hra : Reach l ts at_ es a := h.rest a (by rw [hr]; simp)
 have mv : ∀ b, b ∈ s.ins.map (·.1) ∨ b ∈ s.bad.map (·.1) ∨ b ∈ s.rest → b ∈ (fg s.ins a (atP l a).1).map (·.1) ∨ b ∈ s.bad.map (·.1) ∨ b ∈ r ++ ka ts at_ (atP l a).1 := by
  rintro b (h1 | h1 | h1)
  ·exact .inl (iW.2 (.inr h1))
  ·exact .inr (.inl h1)
  ·rw [hr] at h1
   rcases List.mem_append.1 h1 with h2 | h2
   ·exact .inr (.inr (List.mem_append_left _ h2))
   ·exact .inl (iW.2 (.inl (List.mem_singleton.1 h2)))
 have hlen : (fg s.ins a (atP l a).1).length = s.ins.length + 1 := by
  rw [qX]
  ·simp
  ·cases hq : dK s.ins a with
   | none => rfl
   | some x => exact absurd (xo hq) hn
 have hl := uA hT at_ (atP l a).1
 have hcl : (j2 ts at_ (atP l a).1).length ≤ 66 := by
  have := rW hT at_ (atP l a).1.addr
  unfold j2
  repeat' split
  all_goals simp <;> omega
 refine ⟨lR a _ h.nIns, h.nBad, ?_, ?_, fun k x hx => ?_, h.bad, fun b hb => ?_, fun b hb => mv b (h.start b hb), fun k hk b hb => ?_, fun b => ?_, fun b => ?_, ?_, ?_, ?_⟩
 ·have : ∀ (ks : List UInt32) (m : List (UInt32 × Bool)), (m.map (·.1)).Nodup → ((gA m ks).map (·.1)).Nodup := by
   intro ks
   induction ks with
   | nil => intro m h; exact h
   | cons k ks ih => intro m h; exact ih _ (lR k true h)
  exact this _ _ h.nEnts
 ·show ((if pT ts at_ (atP l a).1 = true then fg s.unk (atP l a).1.addr true else s.unk).map (·.1)).Nodup
  split
  ·exact lR _ _ h.nUnk
  ·exact h.nUnk
 ·have hx' : dK (fg s.ins a (atP l a).1) k = some x := hx
  rw [ux] at hx'
  split at hx'
  ·rename_i e
   subst e
   cases hx'
   exact ⟨hra, hf, rfl⟩
  ·exact h.ins k x hx'
 ·rcases List.mem_append.1 (show b ∈ r ++ ka ts at_ (atP l a).1 from hb) with h1 | h1
  ·exact h.rest b (by rw [hr]; exact List.mem_append_left _ h1)
  ·exact .step a b hra hf h1
 ·rcases iW.1 (show k ∈ (fg s.ins a (atP l a).1).map (·.1) from hk) with rfl | hk
  ·exact .inr (.inr (List.mem_append_right _ hb))
  ·exact mv b (h.close k hk b hb)
 ·show b ∈ (gA s.ents (j2 ts at_ (atP l a).1)).map (·.1) ↔ b ∈ es ∨ ∃ k ∈ (fg s.ins a (atP l a).1).map (·.1), _
  rw [rU, h.ents]
  constructor
  ·rintro (h1 | h1 | ⟨k, h1, h2⟩)
   ·exact .inr ⟨a, iW.2 (.inl rfl), h1⟩
   ·exact .inl h1
   ·exact .inr ⟨k, iW.2 (.inr h1), h2⟩
  ·rintro (h1 | ⟨k, h1, h2⟩)
   ·exact .inr (.inl h1)
   ·rcases iW.1 h1 with rfl | h1
    ·exact .inl h2
    ·exact .inr (.inr ⟨k, h1, h2⟩)
 ·show b ∈ (if pT ts at_ (atP l a).1 = true then fg s.unk (atP l a).1.addr true else s.unk).map (·.1) ↔ b ∈ (fg s.ins a (atP l a).1).map (·.1) ∧ _
  rw [iW]
  split
  ·rename_i hu
   rw [iW, h.unk, ha]
   constructor
   ·rintro (rfl | ⟨h1, h2⟩)
    ·exact ⟨.inl rfl, hu⟩
    ·exact ⟨.inr h1, h2⟩
   ·rintro ⟨h1 | h1, h2⟩
    ·exact .inl h1
    ·exact .inr ⟨h1, h2⟩
  ·rename_i hu
   rw [h.unk]
   constructor
   ·rintro ⟨h1, h2⟩
    exact ⟨.inr h1, h2⟩
   ·rintro ⟨h1 | h1, h2⟩
    ·subst h1; exact absurd h2 hu
    ·exact ⟨h1, h2⟩
 ·have := h.lRest
  rw [hr, List.length_append, List.length_singleton] at this
  show (r ++ ka ts at_ (atP l a).1).length + s.bad.length ≤ es.length + 66 * (fg s.ins a (atP l a).1).length
  rw [hlen, List.length_append]
  omega
 ·have := h.lEnts
  have h2 := rS (j2 ts at_ (atP l a).1) s.ents
  show (gA s.ents (j2 ts at_ (atP l a).1)).length ≤ es.length + 66 * (fg s.ins a (atP l a).1).length
  rw [hlen]; omega
 ·have := h.lUnk
  show (if pT ts at_ (atP l a).1 = true then fg s.unk (atP l a).1.addr true else s.unk).length ≤ (fg s.ins a (atP l a).1).length
  rw [hlen]
  split
  ·have := uv s.unk (atP l a).1.addr true; omega
  ·omega
theorem DInv.all (h : DInv l ts at_ es s) (hr : s.rest = []) : ∀ b, Reach l ts at_ es b → b ∈ s.ins.map (·.1) ∨ b ∈ s.bad.map (·.1) := by
 intro b hb
 have cut : ∀ c, c ∈ s.ins.map (·.1) ∨ c ∈ s.bad.map (·.1) ∨ c ∈ s.rest → c ∈ s.ins.map (·.1) ∨ c ∈ s.bad.map (·.1) := by
  rintro c (h1 | h1 | h1)
  ·exact .inl h1
  ·exact .inr h1
  ·rw [hr] at h1; cases h1
 induction hb with
 | ent a ha => exact cut a (h.start a ha)
 | step b a hb hf ha ih =>
  rcases ih with h1 | h1
  ·exact cut a (h.close b h1 a ha)
  ·obtain ⟨x, hx⟩ := nQ h1
   have := (h.bad b x hx).2.1
   rw [hf] at this; cases this
theorem DInv.insKeys (h : DInv l ts at_ es s) (hr : s.rest = []) (b : UInt32) : b ∈ s.ins.map (·.1) ↔ Reach l ts at_ es b ∧ (atP l b).2 = true := by
 constructor
 ·intro h1
  obtain ⟨x, hx⟩ := nQ h1
  exact ⟨(h.ins b x hx).1, (h.ins b x hx).2.1⟩
 ·rintro ⟨h1, h2⟩
  rcases h.all hr b h1 with h3 | h3
  ·exact h3
  ·obtain ⟨x, hx⟩ := nQ h3
   have := (h.bad b x hx).2.1
   rw [h2] at this; cases this
theorem DInv.code (h : DInv l ts at_ es s) (hr : s.rest = []) : IsCode l ts at_ es ⟨(f8 (s.ins.map (·.1))).map fun a => (atP l a).1, (f8 (s.ents.map (·.1))).filter fun a => (dK s.ins a).isSome, f8 (s.unk.map (·.1)), f8 (s.bad.map (·.1))⟩ := by
 refine ⟨⟨_, qI h.nIns, fun a => by rw [nh]; exact h.insKeys hr a, rfl⟩, ⟨qI h.nBad, fun a => ?_⟩, ⟨(qI h.nEnts).filter _, fun a => ?_⟩, ⟨qI h.nUnk, fun a => ?_⟩⟩
 ·show a ∈ f8 _ ↔ _
  rw [nh]
  constructor
  ·intro h1
   obtain ⟨x, hx⟩ := nQ h1
   exact ⟨(h.bad a x hx).1, (h.bad a x hx).2.1⟩
  ·rintro ⟨h1, h2⟩
   rcases h.all hr a h1 with h3 | h3
   ·have := ((h.insKeys hr a).1 h3).2
    rw [h2] at this; cases this
   ·exact h3
 ·show a ∈ (f8 _).filter _ ↔ _
  rw [List.mem_filter, nh, h.ents, kJ, h.insKeys hr]
  constructor
  ·rintro ⟨h1 | ⟨k, h1, h2⟩, h3⟩
   ·exact ⟨h3, .inl h1⟩
   ·exact ⟨h3, .inr ⟨k, (h.insKeys hr k).1 h1, h2⟩⟩
  ·rintro ⟨h3, h1 | ⟨k, h1, h2⟩⟩
   ·exact ⟨.inl h1, h3⟩
   ·exact ⟨.inr ⟨k, (h.insKeys hr k).2 h1, h2⟩, h3⟩
 ·show a ∈ f8 _ ↔ _
  rw [nh, h.unk, h.insKeys hr]
end
theorem Ax {α : Type} [Inhabited α] {xs : List α} (h : 0 < xs.length) : xs = xs.take ((xs.length : Int) - 1).toNat ++ [xs.getD ((xs.length : Int) - 1).toNat default] := by
 obtain ⟨n, hn⟩ : ∃ n, ((xs.length : Int) - 1).toNat = n := ⟨_, rfl⟩
 rw [hn]
 have h1 : n + 1 = xs.length := by omega
 have := dn (l := xs) (k := n) (by omega)
 rw [← this, h1, List.take_length]
theorem yw {ins : List (UInt32 × Ins)} {bad : List (UInt32 × Bool)} {a : UInt32} (h : (dK ins a).isSome = true ∨ (dK bad a).getD false = true) : a ∈ ins.map (·.1) ∨ a ∈ bad.map (·.1) := by
 rcases h with h | h
 ·exact .inl (kJ.1 h)
 ·right
  cases hq : dK bad a with
  | none => rw [hq] at h; cases h
  | some x => exact xo hq
theorem Bo {ins : List (UInt32 × Ins)} {bad : List (UInt32 × Bool)} {a : UInt32} (h : (dK ins a).isSome = false ∧ (dK bad a).getD false = false) : a ∉ ins.map (·.1) := fun hq => by
 have := kJ.2 hq
 rw [h.1] at this; cases this
theorem Hl {l : List SecV} {ts : List TabV} {at_ es : List UInt32} {s : DSt} (h : DInv l ts at_ es s) {k : UInt32} (hk : k ∈ s.ins.map (·.1)) : (dK s.ins k).getD cx = (atP l k).1 := by
 obtain ⟨x, hx⟩ := nQ hk
 rw [hx]; exact (h.ins k x hx).2.2
theorem mJ {α β : Type} [Inhabited α] (f : α → β) {l : List α} {k : Nat} (h : k < l.length) : (l.take k).map f ++ [f (l.getD k default)] = (l.take (k + 1)).map f := by
 rw [dn h, List.map_append]; rfl
theorem td {α : Type} [Inhabited α] {p : α → Bool} {l : List α} {k : Nat} (h : k < l.length) (hp : p (l.getD k default) = true) : (l.take k).filter p ++ [l.getD k default] = (l.take (k + 1)).filter p := by
 rw [dn h, List.filter_append, List.filter_cons_of_pos hp]; rfl
theorem uK {α : Type} [Inhabited α] {p : α → Bool} {l : List α} {k : Nat} (h : k < l.length) (hp : p (l.getD k default) = false) : (l.take k).filter p = (l.take (k + 1)).filter p := by
 rw [dn h, List.filter_append, List.filter_cons_of_neg (by rw [hp]; simp)]; simp
theorem GX (l : List SecV) (a : UInt32) : InsOK (atP l a).1 := by
 unfold atP
 split
 ·constructor <;> exact ⟨by decide, by decide⟩
 ·exact Hu
def vI (l : List SecV) : List UInt32 := l.flatMap fun s => (List.range s.data.length).map fun i => s.addr + UInt32.ofNat i
def totD (l : List SecV) : Nat := (l.map fun s => s.data.length).sum
theorem tQ (l : List SecV) : (vI l).length = totD l := by
 induction l with
 | nil => rfl
 | cons s l ih =>
  show (((List.range s.data.length).map fun i => s.addr + UInt32.ofNat i) ++ vI l).length = _
  rw [List.length_append, List.length_map, List.length_range, ih]
  simp [totD]
theorem xM {l : List SecV} {a : UInt32} (h : (atP l a).2 = true) : a ∈ vI l := by
 obtain ⟨_, h1, _⟩ := BS h
 unfold Cz at h1
 simp only [Bool.or_eq_false_iff, decide_eq_false_iff_not] at h1
 have hf : 0 ≤ cO l a := by omega
 have hlt := jy (l := l) (a := a)
 have hin := nV.1 (o6 (l := l) (a := a) hf)
 refine List.mem_flatMap.2 ⟨l.getD (cO l a).toNat default, cZ (by omega), ?_⟩
 obtain ⟨s, hs⟩ : ∃ s, s = l.getD (cO l a).toNat default := ⟨_, rfl⟩
 rw [← hs] at hin ⊢
 have hen : lr s ≤ (s.addr.toNat : Int) + s.data.length := by unfold lr; omega
 have ha := a.toNat_lt
 refine List.mem_map.2 ⟨a.toNat - s.addr.toNat, List.mem_range.2 (by omega), ?_⟩
 rw [← UInt32.toNat_inj, UInt32.toNat_add, UInt32.toNat_ofNat']
 omega
theorem DInv.count {l : List SecV} {ts : List TabV} {at_ es : List UInt32} {s : DSt} (h : DInv l ts at_ es s) : s.ins.length ≤ totD l := by
 have := ng (l := s.ins.map (·.1)) (l' := vI l) h.nIns fun k hk => by
  obtain ⟨x, hx⟩ := nQ hk
  exact xM (h.ins k x hx).2.1
 rw [List.length_map, tQ] at this
 exact this
end Go.HL
namespace Go.HL
section
variable {α : Type} [Inhabited α]
structure WO (lt : α → α → Bool) : Prop where
 irr : ∀ x, lt x x = false
 tr : ∀ x y z, lt x y = true → lt y z = true → lt x z = true
 ntr : ∀ x y z, lt x y = false → lt y z = false → lt x z = false
theorem WO.asym {lt : α → α → Bool} (h : WO lt) {x y : α} (e : lt x y = true) : lt y x = false := by
 cases e2 : lt y x
 ·rfl
 ·have := h.tr _ _ _ e e2; rw [h.irr] at this; cases this
theorem WO.lt_le {lt : α → α → Bool} (h : WO lt) {x y z : α} (e : lt x y = true) (e2 : lt z y = false) : lt x z = true := by
 cases e3 : lt x z
 ·rw [h.ntr _ _ _ e3 e2] at e; cases e
 ·rfl
theorem WO.le_lt {lt : α → α → Bool} (h : WO lt) {x y z : α} (e : lt y x = false) (e2 : lt y z = true) : lt x z = true := by
 cases e3 : lt x z
 ·rw [h.ntr _ _ _ e e3] at e2; cases e2
 ·rfl
def eqv (lt : α → α → Bool) (z x : α) : Bool := !lt z x && !lt x z
def Stab (lt : α → α → Bool) (l l' : List α) : Prop := l.Perm l' ∧ ∀ z, l.filter (eqv lt z) = l'.filter (eqv lt z)
theorem Stab.refl (lt : α → α → Bool) (l : List α) : Stab lt l l := ⟨.refl _, fun _ => rfl⟩
theorem Stab.trans {lt : α → α → Bool} {a b c : List α} (h : Stab lt a b) (k : Stab lt b c) : Stab lt a c := ⟨h.1.trans k.1, fun z => (h.2 z).trans (k.2 z)⟩
theorem Stab.len {lt : α → α → Bool} {a b : List α} (h : Stab lt a b) : b.length = a.length := h.1.length_eq.symm
theorem Stab.symm {lt : α → α → Bool} {a b : List α} (h : Stab lt a b) : Stab lt b a := ⟨h.1.symm, fun z => (h.2 z).symm⟩
theorem vp {lt : α → α → Bool} (h : WO lt) {X Y : List α} (hc : ∀ x ∈ X, ∀ y ∈ Y, lt y x = true) (z : α) : X.filter (eqv lt z) = [] ∨ Y.filter (eqv lt z) = [] := by
 cases hX : X.filter (eqv lt z) with
 | nil => exact .inl rfl
 | cons x t =>
  refine .inr ?_
  rw [List.filter_eq_nil_iff]
  intro y hy he
  have hx : x ∈ X.filter (eqv lt z) := by rw [hX]; exact .head _
  obtain ⟨hx1, hx2⟩ := List.mem_filter.1 hx
  simp only [eqv, Bool.and_eq_true, Bool.not_eq_true'] at he hx2
  have := hc x hx1 y hy
  rw [h.ntr _ _ _ he.2 hx2.1] at this
  cases this
theorem Stab.swap {lt : α → α → Bool} (h : WO lt) (P X Y S : List α) (hc : ∀ x ∈ X, ∀ y ∈ Y, lt y x = true) : Stab lt (P ++ (X ++ (Y ++ S))) (P ++ (Y ++ (X ++ S))) := by
 refine ⟨List.Perm.append_left _ (by rw [← List.append_assoc, ← List.append_assoc]; exact List.perm_append_comm.append_right _), fun z => ?_⟩
 simp only [List.filter_append]
 rcases vp h hc z with e | e <;> rw [e] <;> simp
theorem rL {lt : α → α → Bool} (h : WO lt) : ∀ (l l' : List α), Stab lt l l' → l.Pairwise (fun x y => lt y x = false) → l'.Pairwise (fun x y => lt y x = false) → l = l'
 | [], l', s, _, _ => by have := s.len; simp at this; exact this.symm
 | x :: t, [], s, _, _ => by have := s.len; simp at this
 | x :: t, y :: t', s, h1, h2 => by
  rw [List.pairwise_cons] at h1 h2
  have hxy : lt x y = false := by
   have : x ∈ y :: t' := s.1.subset (.head _)
   rcases List.mem_cons.1 this with rfl | hm
   ·exact h.irr _
   ·exact h2.1 _ hm
  have hyx : lt y x = false := by
   have : y ∈ x :: t := s.1.symm.subset (.head _)
   rcases List.mem_cons.1 this with rfl | hm
   ·exact h.irr _
   ·exact h1.1 _ hm
  have ex : x = y := by
   have := s.2 x
   rw [List.filter_cons_of_pos (by simp [eqv, h.irr]), List.filter_cons_of_pos (by simp [eqv, hxy, hyx])] at this
   exact (List.cons.inj this).1
  subst ex
  have st : Stab lt t t' := ⟨(List.perm_cons x).1 s.1, fun z => by
   have := s.2 z
   simp only [List.filter_cons] at this
   split at this
   ·exact (List.cons.inj this).2
   ·exact this⟩
  rw [rL h t t' st h1.2 h2.2]
def mp (f : Nat → Nat) (l : List α) : List α := (List.range l.length).map fun k => l.getD (f k) default
theorem ic (f : Nat → Nat) (l : List α) : (mp f l).length = l.length := by simp [mp]
theorem iC {f : Nat → Nat} {l : List α} {k : Nat} (h : k < l.length) : (mp f l).getD k default = l.getD (f k) default := by
 simp [mp, List.getD_eq_getElem?_getD, h]
theorem o8 {l l' : List α} (h : l.length = l'.length) (e : ∀ k, k < l.length → l.getD k default = l'.getD k default) : l = l' := by
 refine List.ext_getElem h fun k h1 h2 => ?_
 have := e k h1
 simpa [List.getD_eq_getElem?_getD, h1, h2] using this
theorem GR {f : Nat → Nat} {l : List α} (h : ∀ k, k < l.length → f k = k) : mp f l = l :=
 o8 (ic _ _) fun k hk => by rw [ic] at hk; rw [iC hk, h k hk]
theorem yQ {f g k : Nat → Nat} {l : List α} (h : ∀ x, x < l.length → f x < l.length) (e : ∀ x, x < l.length → g (f x) = k x) : mp f (mp g l) = mp k l :=
 o8 (by simp [ic]) fun x hx => by
  rw [ic, ic] at hx
  rw [iC (by rw [ic]; exact hx), iC (h x hx), iC hx, e x hx]
theorem Ec {f g : Nat → Nat} {l : List α} (e : ∀ x, x < l.length → f x = g x) : mp f l = mp g l :=
 o8 (by simp [ic]) fun x hx => by rw [ic] at hx; rw [iC hx, iC hx, e x hx]
def swF (p q k : Nat) : Nat := if k = p then q else if k = q then p else k
def swR (a b n k : Nat) : Nat := if a ≤ k ∧ k < a + n then k - a + b else if b ≤ k ∧ k < b + n then k - b + a else k
def dy (lo m hi k : Nat) : Nat := if lo ≤ k ∧ k < lo + (hi - m) then k + (m - lo) else if lo + (hi - m) ≤ k ∧ k < hi then k - (hi - m) else k
theorem rK (p q k : Nat) : (k = p ∧ swF p q k = q) ∨ (k ≠ p ∧ k = q ∧ swF p q k = p) ∨ (k ≠ p ∧ k ≠ q ∧ swF p q k = k) := by simp only [swF]; grind
theorem m8 (a b n k : Nat) : (a ≤ k ∧ k < a + n ∧ swR a b n k = k - a + b) ∨ (¬ (a ≤ k ∧ k < a + n) ∧ b ≤ k ∧ k < b + n ∧ swR a b n k = k - b + a) ∨ (¬ (a ≤ k ∧ k < a + n) ∧ ¬ (b ≤ k ∧ k < b + n) ∧ swR a b n k = k) := by simp only [swR]; grind
theorem fL (lo m hi k : Nat) : (lo ≤ k ∧ k < lo + (hi - m) ∧ dy lo m hi k = k + (m - lo)) ∨ (¬ (lo ≤ k ∧ k < lo + (hi - m)) ∧ lo + (hi - m) ≤ k ∧ k < hi ∧ dy lo m hi k = k - (hi - m)) ∨ (¬ (lo ≤ k ∧ k < lo + (hi - m)) ∧ ¬ (lo + (hi - m) ≤ k ∧ k < hi) ∧ dy lo m hi k = k) := by simp only [dy]; grind
theorem By {l : List α} {p q : Nat} (hp : p < l.length) (hq : q < l.length) : (l.set p (l.getD q default)).set q (l.getD p default) = mp (swF p q) l :=
 o8 (by simp [ic]) fun k hk => by
  have hk' : k < l.length := by simpa using hk
  rw [iC hk']
  simp only [List.getD_eq_getElem?_getD, List.getElem?_set, List.length_set, swF]
  grind
theorem HN {a b : Nat} {l : List α} : mp (swR a b 0) l = l := GR fun k _ => by simp only [swR]; split <;> (try split) <;> omega
theorem Dx {a b n i : Nat} {l : List α} (h1 : a + n ≤ b) (h2 : b + n ≤ l.length) (hi : i < n) : mp (swF (a + i) (b + i)) (mp (swR a b i) l) = mp (swR a b (i + 1)) l :=
 yQ (fun x hx => by simp only [swF]; split <;> (try split) <;> omega) fun x hx => by
  have h3 := rK (a + i) (b + i) x
  have h4 := m8 a b i (swF (a + i) (b + i) x)
  have h5 := m8 a b (i + 1) x
  omega
theorem Br {lo m hi k n : Nat} (h1 : lo ≤ m) (h2 : m ≤ hi) (h3 : hi ≤ n) (h : k < n) : dy lo m hi k < n := by simp only [dy]; split <;> (try split) <;> omega
theorem G4 {m i j : Nat} {l : List α} (h1 : i ≤ m) (h2 : m + j ≤ l.length) (h : j < i) : mp (dy (m - (i - j)) m (m + j)) (mp (swR (m - i) m j) l) = mp (dy (m - i) m (m + j)) l :=
 yQ (fun x hx => Br (by omega) (by omega) h2 hx) fun x hx => by
  have h3 := fL (m - (i - j)) m (m + j) x
  have h4 := m8 (m - i) m j (dy (m - (i - j)) m (m + j) x)
  have h5 := fL (m - i) m (m + j) x
  omega
theorem G3 {m i j : Nat} {l : List α} (h1 : i ≤ m) (h2 : m + j ≤ l.length) (h : i < j) : mp (dy (m - i) m (m + (j - i))) (mp (swR (m - i) (m + j - i) i) l) = mp (dy (m - i) m (m + j)) l :=
 yQ (fun x hx => Br (by omega) (by omega) (by omega) hx) fun x hx => by
  have h3 := fL (m - i) m (m + (j - i)) x
  have h4 := m8 (m - i) (m + j - i) i (dy (m - i) m (m + (j - i)) x)
  have h5 := fL (m - i) m (m + j) x
  omega
theorem G5 {m i : Nat} {l : List α} (h1 : i ≤ m) : mp (swR (m - i) m i) l = mp (dy (m - i) m (m + i)) l :=
 Ec fun x hx => by
  have h4 := m8 (m - i) m i x
  have h5 := fL (m - i) m (m + i) x
  omega
theorem yC {l : List α} {i j : Nat} (h : 0 < j) (hj : j ≤ i) (hi : i < l.length) : mp (swF j (j - 1)) (mp (dy j i (i + 1)) l) = mp (dy (j - 1) i (i + 1)) l :=
 yQ (fun x hx => by simp only [swF]; split <;> (try split) <;> omega) fun x hx => by
  have h3 := rK j (j - 1) x
  have h4 := fL j i (i + 1) (swF j (j - 1) x)
  have h5 := fL (j - 1) i (i + 1) x
  omega
theorem G1 {l : List α} {a k : Nat} (h : a ≤ k) (hk : k + 1 < l.length) : mp (swF k (k + 1)) (mp (dy a (a + 1) (k + 1)) l) = mp (dy a (a + 1) (k + 2)) l :=
 yQ (fun x hx => by simp only [swF]; split <;> (try split) <;> omega) fun x hx => by
  have h3 := rK k (k + 1) x
  have h4 := fL a (a + 1) (k + 1) (swF k (k + 1) x)
  have h5 := fL a (a + 1) (k + 2) x
  omega
theorem qO {l : List α} {a m b : Nat} (h : a = m ∨ m = b) (h1 : a ≤ m) (h2 : m ≤ b) : mp (dy a m b) l = l := GR fun k _ => by have := fL a m b k; omega
theorem DO {l : List α} {a m b : Nat} (h1 : a ≤ m) (h2 : m ≤ b) (h3 : b ≤ l.length) :
  mp (dy a m b) l = l.take a ++ ((l.take b).drop m ++ ((l.take m).drop a ++ l.drop b)) := by
 refine o8 (by simp [ic]; omega) fun k hk => ?_
 rw [ic] at hk
 rw [iC hk]
 simp only [List.getD_eq_getElem?_getD, List.getElem?_append, List.length_take, List.length_drop, List.getElem?_take, List.getElem?_drop, dy]
 congr 1
 grind
theorem qm {l : List α} {a m b : Nat} (h1 : a ≤ m) (h2 : m ≤ b) (h3 : b ≤ l.length) :
  l = l.take a ++ ((l.take m).drop a ++ ((l.take b).drop m ++ l.drop b)) := by
 refine o8 (by simp; omega) fun k hk => ?_
 simp only [List.getD_eq_getElem?_getD, List.getElem?_append, List.length_take, List.length_drop, List.getElem?_take, List.getElem?_drop]
 congr 1
 grind
theorem xk {l : List α} {a b : Nat} {x : α} (h : x ∈ (l.take b).drop a) : ∃ k, a ≤ k ∧ k < b ∧ k < l.length ∧ x = l.getD k default := by
 obtain ⟨i, hi⟩ := List.mem_iff_getElem?.1 h
 rw [List.getElem?_drop, List.getElem?_take] at hi
 split at hi
 ·refine ⟨a + i, by omega, by omega, (List.getElem?_eq_some_iff.1 hi).1, by simp [List.getD_eq_getElem?_getD, hi]⟩
 ·cases hi
theorem Fw {l : List α} {a b k : Nat} (h1 : a ≤ k) (h2 : k < b) (h3 : k < l.length) : l.getD k default ∈ (l.take b).drop a := by
 refine List.mem_iff_getElem?.2 ⟨k - a, ?_⟩
 rw [List.getElem?_drop, List.getElem?_take, if_pos (by omega), show a + (k - a) = k by omega]
 simp [List.getD_eq_getElem?_getD, h3]
theorem Stab.rot {lt : α → α → Bool} (h : WO lt) {l : List α} {a m b : Nat} (h1 : a ≤ m) (h2 : m ≤ b) (h3 : b ≤ l.length)
  (hc : ∀ x y, a ≤ x → x < m → m ≤ y → y < b → lt (l.getD y default) (l.getD x default) = true) : Stab lt l (mp (dy a m b) l) := by
 rw [DO h1 h2 h3]
 conv => lhs; rw [qm h1 h2 h3]
 refine Stab.swap h _ _ _ _ fun x hx y hy => ?_
 obtain ⟨i, a1, a2, a3, rfl⟩ := xk hx
 obtain ⟨j, b1, b2, b3, rfl⟩ := xk hy
 exact hc i j a1 a2 b1 b2
def Fram (a b : Nat) (l l' : List α) : Prop := l'.length = l.length ∧ ∀ k, k < a ∨ b ≤ k → l'.getD k default = l.getD k default
theorem Fram.refl (a b : Nat) (l : List α) : Fram a b l l := ⟨rfl, fun _ _ => rfl⟩
theorem Fram.trans {a b : Nat} {l m n : List α} (h : Fram a b l m) (k : Fram a b m n) : Fram a b l n := ⟨k.1.trans h.1, fun x hx => (k.2 x hx).trans (h.2 x hx)⟩
theorem Fram.mono {a b c d : Nat} {l m : List α} (h : Fram a b l m) (h1 : c ≤ a) (h2 : b ≤ d) : Fram c d l m := ⟨h.1, fun x hx => h.2 x (by omega)⟩
theorem Fram.rot {a b s m e : Nat} {l : List α} (h1 : a ≤ s) (h2 : e ≤ b) (h3 : s ≤ m) (h4 : m ≤ e) : Fram a b l (mp (dy s m e) l) :=
 ⟨ic _ _, fun k hk => by
  by_cases h : k < l.length
  ·rw [iC h, show dy s m e k = k by have := fL s m e k; omega]
  ·have e1 := List.getElem?_eq_none (l := mp (dy s m e) l) (i := k) (by rw [ic]; omega)
   have e2 := List.getElem?_eq_none (l := l) (i := k) (by omega)
   rw [List.getD_eq_getElem?_getD, List.getD_eq_getElem?_getD, e1, e2]⟩
theorem Dl {lt : α → α → Bool} {l l' : List α} {a b k : Nat} (s : Stab lt l l') (f : Fram a b l l') (hb : b ≤ l.length) (h1 : a ≤ k) (h2 : k < b) : ∃ j, a ≤ j ∧ j < b ∧ l'.getD k default = l.getD j default := by
 have hl := f.1
 have e1 : l'.take a = l.take a := o8 (by simp [hl]) fun x hx => by
  have hx' : x < a := by simp at hx; omega
  have := f.2 x (.inl hx')
  simpa [List.getD_eq_getElem?_getD, List.getElem?_take, hx'] using this
 have e2 : l'.drop b = l.drop b := o8 (by simp [hl]) fun x hx => by
  have := f.2 (b + x) (.inr (by omega))
  simpa [List.getD_eq_getElem?_getD, List.getElem?_drop] using this
 have p1 := s.1
 rw [qm (l := l) (a := a) (m := b) (b := b) (by omega) (Nat.le_refl _) hb, qm (l := l') (a := a) (m := b) (b := b) (by omega) (Nat.le_refl _) (by omega), e1, e2] at p1
 have p2 := (List.perm_append_left_iff _).1 p1
 have e3 : ∀ x : List α, (x.take b).drop b = [] := fun x => by simp
 rw [e3, e3, List.nil_append] at p2
 have p3 := (List.perm_append_right_iff _).1 p2
 obtain ⟨j, a1, a2, a3, a4⟩ := xk (p3.symm.subset (Fw (l := l') h1 h2 (by omega)))
 exact ⟨j, a1, a2, a4⟩
def Srt (lt : α → α → Bool) (l : List α) (a b : Nat) : Prop := ∀ p q, a ≤ p → p < q → q < b → lt (l.getD q default) (l.getD p default) = false
theorem Srt.sub {lt : α → α → Bool} {l : List α} {a b c d : Nat} (h : Srt lt l a b) (h1 : a ≤ c) (h2 : d ≤ b) : Srt lt l c d := fun p q x y z => h p q (by omega) y (by omega)
theorem Srt.one {lt : α → α → Bool} {l : List α} {a b : Nat} (h : b ≤ a + 1) : Srt lt l a b := fun p q x y z => by omega
theorem Srt.fram {lt : α → α → Bool} {l l' : List α} {a b c d : Nat} (h : Srt lt l a b) (f : Fram c d l l') (hd : b ≤ c ∨ d ≤ a) : Srt lt l' a b := fun p q x y z => by
 rw [f.2 p (by omega), f.2 q (by omega)]; exact h p q x y z
theorem Srt.all {lt : α → α → Bool} {l : List α} (h : Srt lt l 0 l.length) : l.Pairwise fun x y => lt y x = false := by
 rw [List.pairwise_iff_getElem]
 intro i j hi hj hij
 have := h i j (Nat.zero_le _) hij hj
 simpa [List.getD_eq_getElem?_getD, hi, hj] using this
theorem Srt.le {lt : α → α → Bool} (h : WO lt) {l : List α} {a b p q : Nat} (s : Srt lt l a b) (h1 : a ≤ p) (h2 : p ≤ q) (h3 : q < b) : lt (l.getD q default) (l.getD p default) = false := by
 rcases Nat.eq_or_lt_of_le h2 with rfl | h2
 ·exact h.irr _
 ·exact s p q h1 h2 h3
theorem Srt.glue {lt : α → α → Bool} {l : List α} {a m b : Nat} (h1 : Srt lt l a m) (h2 : Srt lt l m b) (hc : ∀ p q, a ≤ p → p < m → m ≤ q → q < b → lt (l.getD q default) (l.getD p default) = false) : Srt lt l a b := fun p q x y z => by
 by_cases hq : q < m
 ·exact h1 p q x y hq
 ·by_cases hp : p < m
  ·exact hc p q x hp (by omega) z
  ·exact h2 p q (by omega) y z
theorem Bn {lt : α → α → Bool} (h : WO lt) {l : List α} {a i j : Nat} (hs : Srt lt l a i) (hi : i < l.length) (h1 : a ≤ j) (h2 : j ≤ i) (hA : ∀ q, j ≤ q → q < i → lt (l.getD i default) (l.getD q default) = true)
  (hB : j = a ∨ lt (l.getD i default) (l.getD (j - 1) default) = false) : Stab lt l (mp (dy j i (i + 1)) l) ∧ Srt lt (mp (dy j i (i + 1)) l) a (i + 1) := by
 refine ⟨Stab.rot h h2 (by omega) (by omega) fun x y a1 a2 a3 a4 => by rw [show y = i by omega]; exact hA x a1 a2, fun p q a1 a2 a3 => ?_⟩
 rw [iC (by omega), iC (by omega)]
 have hlow : ∀ p, a ≤ p → p < j → lt (l.getD i default) (l.getD p default) = false := fun p b1 b2 => by
  rcases hB with rfl | hB
  ·omega
  ·exact h.ntr _ _ _ hB (hs.le h b1 (by omega) (by omega))
 have fp : ∀ k, k ≤ i → dy j i (i + 1) k = if k < j then k else if k = j then i else k - 1 := fun k hk => by simp only [dy]; grind
 rw [fp p (by omega), fp q (by omega)]
 by_cases c1 : q < j
 ·rw [if_pos c1, if_pos (by omega)]; exact hs _ _ a1 a2 (by omega)
 ·rw [if_neg c1]
  by_cases c2 : q = j
  ·rw [if_pos c2, if_pos (by omega)]; exact hlow p a1 (by omega)
  ·rw [if_neg c2]
   by_cases c3 : p < j
   ·rw [if_pos c3]; exact hs _ _ a1 (by omega) (by omega)
   ·rw [if_neg c3]
    by_cases c4 : p = j
    ·rw [if_pos c4]; exact h.asym (hA _ (by omega) (by omega))
    ·rw [if_neg c4]; exact hs _ _ (by omega) (by omega) (by omega)
theorem Dz {lt : α → α → Bool} (h : WO lt) {l : List α} {a i b : Nat} (hs : Srt lt l (a + 1) b) (hb : b ≤ l.length) (h1 : a + 1 ≤ i) (h2 : i ≤ b) (hA : ∀ q, a + 1 ≤ q → q < i → lt (l.getD q default) (l.getD a default) = true)
  (hB : ∀ q, i ≤ q → q < b → lt (l.getD q default) (l.getD a default) = false) : Stab lt l (mp (dy a (a + 1) i) l) ∧ Srt lt (mp (dy a (a + 1) i) l) a b := by
 refine ⟨Stab.rot h (by omega) h1 (by omega) fun x y a1 a2 a3 a4 => by rw [show x = a by omega]; exact hA y a3 a4, fun p q a1 a2 a3 => ?_⟩
 rw [iC (by omega), iC (by omega)]
 have fp : ∀ k, a ≤ k → dy a (a + 1) i k = if k + 1 < i then k + 1 else if k + 1 = i then a else k := fun k hk => by simp only [dy]; grind
 rw [fp p (by omega), fp q (by omega)]
 by_cases c1 : q + 1 < i
 ·rw [if_pos c1, if_pos (by omega)]; exact hs _ _ (by omega) (by omega) (by omega)
 ·rw [if_neg c1]
  by_cases c2 : q + 1 = i
  ·rw [if_pos c2, if_pos (by omega)]; exact h.asym (hA _ (by omega) (by omega))
  ·rw [if_neg c2]
   by_cases c3 : p + 1 < i
   ·rw [if_pos c3]; exact hs _ _ (by omega) (by omega) (by omega)
   ·rw [if_neg c3]
    by_cases c4 : p + 1 = i
    ·rw [if_pos c4]; exact hB _ (by omega) (by omega)
    ·rw [if_neg c4]; exact hs _ _ (by omega) (by omega) (by omega)
structure Half (lt : α → α → Bool) (l cur : List α) (a s mid e b : Nat) : Prop where
 st : Stab lt l cur
 fr : Fram a b l cur
 cr : ∀ p q, a ≤ p → p < mid → mid ≤ q → q < b → lt (cur.getD q default) (cur.getD p default) = false
 s1 : Srt lt cur a s
 s2 : Srt lt cur s mid
 s3 : Srt lt cur mid e
 s4 : Srt lt cur e b
theorem Er {lt : α → α → Bool} (h : WO lt) {l : List α} {a m b s mid e : Nat} (h1 : Srt lt l a m) (h2 : Srt lt l m b) (hb : b ≤ l.length) (ha : a ≤ s) (hs : s ≤ m) (he : m ≤ e) (hbb : e ≤ b) (hm : mid = s + (e - m))
  (hd : s = m ∨ m = e ∨ lt (l.getD (e - 1) default) (l.getD s default) = true) (hg : s = a ∨ e = b ∨ lt (l.getD e default) (l.getD (s - 1) default) = false) : Half lt l (mp (dy s m e) l) a s mid e b := by
 have c1 : ∀ x y, s ≤ x → x < m → m ≤ y → y < e → lt (l.getD y default) (l.getD x default) = true := fun x y a1 a2 a3 a4 => by
  rcases hd with hd | hd | hd
  ·omega
  ·omega
  ·exact h.le_lt (h2.le h (by omega) (show y ≤ e - 1 by omega) (by omega)) (h.lt_le hd (h1.le h (by omega) a1 (by omega)))
 have c2 : ∀ x y, a ≤ x → x < s → e ≤ y → y < b → lt (l.getD y default) (l.getD x default) = false := fun x y a1 a2 a3 a4 => by
  rcases hg with hg | hg | hg
  ·omega
  ·omega
  ·exact h.ntr _ _ _ (h2.le h (by omega) a3 (by omega)) (h.ntr _ _ _ hg (h1.le h a1 (by omega) (by omega)))
 have fp : ∀ k, dy s m e k = if s ≤ k ∧ k < mid then k + (m - s) else if mid ≤ k ∧ k < e then k - (e - m) else k := fun k => by subst hm; rfl
 have fl : ∀ k, k < b → k < l.length := fun k hk => by omega
 refine ⟨Stab.rot h hs he (by omega) c1, Fram.rot ha hbb hs he, fun p q a1 a2 a3 a4 => ?_, fun p q a1 a2 a3 => ?_, fun p q a1 a2 a3 => ?_, fun p q a1 a2 a3 => ?_, fun p q a1 a2 a3 => ?_⟩
 ·rw [iC (by omega), iC (by omega), fp, fp, if_neg (c := s ≤ q ∧ q < mid) (by omega)]
  by_cases d1 : q < e
  ·rw [if_pos (c := mid ≤ q ∧ q < e) ⟨a3, d1⟩]
   by_cases d2 : p < s
   ·rw [if_neg (by omega), if_neg (by omega)]; exact h1 _ _ a1 (by omega) (by omega)
   ·rw [if_pos (by omega)]; exact h.asym (c1 _ _ (by omega) (by omega) (by omega) (by omega))
  ·rw [if_neg (c := mid ≤ q ∧ q < e) (by omega)]
   by_cases d2 : p < s
   ·rw [if_neg (by omega), if_neg (by omega)]; exact c2 _ _ a1 d2 (by omega) a4
   ·rw [if_pos (by omega)]; exact h2 _ _ (by omega) (by omega) a4
 ·rw [iC (by omega), iC (by omega), fp, fp, if_neg (by omega), if_neg (by omega), if_neg (by omega), if_neg (by omega)]; exact h1 _ _ a1 a2 (by omega)
 ·rw [iC (by omega), iC (by omega), fp, fp, if_pos (by omega), if_pos (by omega)]; exact h2 _ _ (by omega) (by omega) (by omega)
 ·rw [iC (by omega), iC (by omega), fp, fp, if_neg (by omega), if_pos (by omega), if_neg (by omega), if_pos (by omega)]; exact h1 _ _ (by omega) (by omega) (by omega)
 ·rw [iC (by omega), iC (by omega), fp, fp, if_neg (by omega), if_neg (by omega), if_neg (by omega), if_neg (by omega)]; exact h2 _ _ (by omega) a2 a3
theorem Half.left {lt : α → α → Bool} {l c1 c2 : List α} {a s mid e b : Nat} (h : Half lt l c1 a s mid e b) (hb : b ≤ l.length) (hm : mid ≤ e) (hmb : e ≤ b) (st : Stab lt c1 c2) (fr : Fram a mid c1 c2) (so : Srt lt c2 a mid) : Half lt l c2 a mid mid e b := by
 have hl := h.fr.1
 refine ⟨h.st.trans st, h.fr.trans (fr.mono (Nat.le_refl _) (by omega)), fun p q a1 a2 a3 a4 => ?_, so, .one (by omega), h.s3.fram fr (.inr (Nat.le_refl _)), h.s4.fram fr (.inr hm)⟩
 obtain ⟨j, b1, b2, b3⟩ := Dl st fr (by omega) a1 a2
 rw [b3, fr.2 q (.inr a3)]
 exact h.cr _ _ b1 b2 a3 a4
theorem Half.left0 {lt : α → α → Bool} {l c1 : List α} {a s mid e b : Nat} (h : Half lt l c1 a s mid e b) (hn : ¬ (a < s ∧ s < mid)) (ha : a ≤ s) (hs : s ≤ mid) : Half lt l c1 a mid mid e b := by
 refine ⟨h.st, h.fr, h.cr, ?_, .one (by omega), h.s3, h.s4⟩
 by_cases c : a = s
 ·rw [c]; exact h.s2
 ·rw [show mid = s by omega]; exact h.s1
theorem Half.right {lt : α → α → Bool} {l c2 c3 : List α} {a mid e b : Nat} (h : Half lt l c2 a mid mid e b) (hb : b ≤ l.length) (ha : a ≤ mid) (hm : mid ≤ b) (st : Stab lt c2 c3) (fr : Fram mid b c2 c3) (so : Srt lt c3 mid b) : Stab lt l c3 ∧ Fram a b l c3 ∧ Srt lt c3 a b := by
 have hl := h.fr.1
 refine ⟨h.st.trans st, h.fr.trans (fr.mono ha (Nat.le_refl _)), (h.s1.fram fr (.inl (Nat.le_refl _))).glue so fun p q a1 a2 a3 a4 => ?_⟩
 obtain ⟨j, b1, b2, b3⟩ := Dl st fr (by omega) a3 a4
 rw [b3, fr.2 p (.inl a2)]
 exact h.cr _ _ a1 a2 b1 b2
theorem Half.right0 {lt : α → α → Bool} {l c2 : List α} {a mid e b : Nat} (h : Half lt l c2 a mid mid e b) (hn : ¬ (mid < e ∧ e < b)) (hm : mid ≤ e) (hb : e ≤ b) : Stab lt l c2 ∧ Fram a b l c2 ∧ Srt lt c2 a b := by
 refine ⟨h.st, h.fr, h.s1.glue ?_ h.cr⟩
 by_cases c : mid = e
 ·rw [c]; exact h.s4
 ·rw [show b = e by omega]; exact h.s3
def Blk (lt : α → α → Bool) (l : List α) (bs n : Nat) : Prop := ∀ t p q, t * bs ≤ p → p < q → q < (t + 1) * bs → q < n → lt (l.getD q default) (l.getD p default) = false
theorem Blk.all {lt : α → α → Bool} {l : List α} {bs n : Nat} (h : Blk lt l bs n) (hn : n ≤ bs) : Srt lt l 0 n := fun p q a1 a2 a3 => h 0 p q (by omega) a2 (by omega) a3
theorem tC {lt : α → α → Bool} {l l' : List α} {bs t0 b : Nat} (h : Blk lt l bs (t0 * bs)) (f : Fram (t0 * bs) b l l') (s : Srt lt l' (t0 * bs) b) (hb : b ≤ (t0 + 1) * bs) : Blk lt l' bs b := fun t p q a1 a2 a3 a4 => by
 by_cases c : q < t0 * bs
 ·rw [f.2 p (by omega), f.2 q (by omega)]; exact h t p q a1 a2 a3 c
 ·have e1 : t * bs < (t0 + 1) * bs := by omega
  have e2 : t0 * bs < (t + 1) * bs := by omega
  have e3 := Nat.lt_of_mul_lt_mul_right e1
  have e4 := Nat.lt_of_mul_lt_mul_right e2
  obtain rfl : t = t0 := by omega
  exact s p q a1 a2 a4
def Mix (lt : α → α → Bool) (l : List α) (bs a n : Nat) : Prop := Blk lt l (2 * bs) a ∧ ∀ t p q, t * bs ≤ p → p < q → q < (t + 1) * bs → a ≤ p → q < n → lt (l.getD q default) (l.getD p default) = false
theorem HW {lt : α → α → Bool} {l : List α} {bs n : Nat} (h : Blk lt l bs n) : Mix lt l bs 0 n := ⟨fun t p q a1 a2 a3 a4 => by omega, fun t p q a1 a2 a3 _ a5 => h t p q a1 a2 a3 a5⟩
theorem uw {lt : α → α → Bool} {l : List α} {bs n t0 m : Nat} (h : Mix lt l bs (t0 * (2 * bs)) n) (hm : m ≤ t0 * (2 * bs) + bs) (hn : m ≤ n) : Srt lt l (t0 * (2 * bs)) m := fun p q a1 a2 a3 => by
 have e : 2 * t0 * bs = t0 * (2 * bs) := by rw [Nat.mul_comm 2 t0, Nat.mul_assoc]
 refine h.2 (2 * t0) p q (by omega) a2 (by rw [Nat.add_mul]; omega) a1 (by omega)
theorem vT {lt : α → α → Bool} {l : List α} {bs n t0 b : Nat} (h : Mix lt l bs (t0 * (2 * bs)) n) (hm : b ≤ t0 * (2 * bs) + 2 * bs) (hn : b ≤ n) : Srt lt l (t0 * (2 * bs) + bs) b := fun p q a1 a2 a3 => by
 have e : 2 * t0 * bs = t0 * (2 * bs) := by rw [Nat.mul_comm 2 t0, Nat.mul_assoc]
 refine h.2 (2 * t0 + 1) p q (by rw [Nat.add_mul]; omega) a2 (by rw [Nat.add_mul, Nat.add_mul]; omega) (by omega) (by omega)
theorem Ee {lt : α → α → Bool} {l l' : List α} {bs n t0 b : Nat} (h : Mix lt l bs (t0 * (2 * bs)) n) (f : Fram (t0 * (2 * bs)) b l l') (s : Srt lt l' (t0 * (2 * bs)) b) (hb : b ≤ t0 * (2 * bs) + 2 * bs) (hab : t0 * (2 * bs) ≤ b) : Mix lt l' bs b n :=
 ⟨tC h.1 f s (by rw [Nat.add_mul]; omega), fun t p q a1 a2 a3 a4 a5 => by
  rw [f.2 p (by omega), f.2 q (by omega)]; exact h.2 t p q a1 a2 a3 (by omega) a5⟩
theorem FV {lt : α → α → Bool} {l : List α} {bs n t0 : Nat} (h : Mix lt l bs (t0 * (2 * bs)) n) (hn : n ≤ t0 * (2 * bs) + bs) : Blk lt l (2 * bs) n := fun t p q a1 a2 a3 a4 => by
 by_cases c : q < t0 * (2 * bs)
 ·exact h.1 t p q a1 a2 a3 c
 ·have e1 : t * (2 * bs) < (t0 + 1) * (2 * bs) := by rw [Nat.add_mul]; omega
  have e2 : t0 * (2 * bs) < (t + 1) * (2 * bs) := by omega
  have e3 := Nat.lt_of_mul_lt_mul_right e1
  have e4 := Nat.lt_of_mul_lt_mul_right e2
  obtain rfl : t = t0 := by omega
  exact uw h hn (Nat.le_refl _) p q a1 a2 a4
end
end Go.HL
namespace Go.HL
open Go
def uT (a b : UInt32) : Int := if a < b then -1 else if b < a then 1 else 0
end Go.HL
namespace Go.HL
open Go
theorem vE {x : Int} (h : 0 ≤ x ∧ x < 4294967296) : ((u32 x).toNat : Int) = x := by
 have := rJ x; omega
end Go.HL
namespace Go.HL
open Go Go.Sort
open Go.Proofs (ltOf)
def AO (a b : Int) : Int := if a < b then -1 else if b < a then 1 else 0
def lx (x y : Ins) : Int := uT x.addr y.addr
theorem tA (a b : UInt32) : uT a b < 0 ↔ a < b := by
 unfold uT
 split
 ·rename_i h; simp [h]
 ·rename_i h
  split
  ·simp [h]
  ·simp [h]
theorem pD (x y : Ins) : ltOf lx x y = decide (x.addr < y.addr) := by
 unfold ltOf lx
 congr 1
 exact propext (tA _ _)
theorem kF : SWO (ltOf lx) where
 irrefl x := by simp [pD]
 trans x y z h1 h2 := by
  simp only [pD, decide_eq_true_eq, UInt32.lt_iff_toNat_lt] at *; omega
 ntrans x y z h1 h2 := by
  simp only [pD, decide_eq_false_iff_not, UInt32.lt_iff_toNat_lt] at *; omega
theorem xl (i : Ins) : 0 ≤ iD i ∧ iD i ≤ 6 := by
 unfold iD ff
 split
 ·repeat' split
  all_goals omega
 ·omega
def uO (i : Ins) : Int := (i.addr.toNat : Int) + iD i
def mxU (a b : UInt32) : UInt32 := if a < b then b else a
theorem FU (a b : UInt32) : (mxU a b).toNat = max a.toNat b.toNat := by
 unfold mxU
 split
 ·rename_i h; rw [UInt32.lt_iff_toNat_lt] at h; omega
 ·rename_i h; rw [UInt32.lt_iff_toNat_lt] at h; omega
def jv (a b : Ins) : Bool := ((decide (a.addr ≠ b.addr) && decide (0 < iD a)) && decide (0 < iD b)) && decide (((mxU a.addr b.addr).toNat : Int) < min (uO a) (uO b))
def nq {α : Type} [DecidableEq α] : α → List α → List α
 | _, [] => []
 | x, y :: t => if y = x then nq x t else y :: nq y t
def fJ {α : Type} [DecidableEq α] : List α → List α
 | [] => []
 | x :: t => x :: nq x t
theorem qq {α : Type} [DecidableEq α] : ∀ (x : α) (l : List α) (y : α), nq x (l ++ [y]) = if y = (x :: l).getLast (by simp) then nq x l else nq x l ++ [y]
 | x, [], y => by simp only [List.nil_append, nq, List.getLast_singleton]; by_cases h : y = x <;> simp [h]
 | x, z :: t, y => by
  have ih1 := qq z t y
  have ih2 := qq x t y
  have e : (x :: z :: t).getLast (by simp) = (z :: t).getLast (by simp) := by simp
  rw [e]
  by_cases h : z = x
  ·subst h
   simp only [List.cons_append, nq, if_true, ih1]
  ·simp only [List.cons_append, nq, h, if_false, ih1]
   split <;> rfl
theorem lu {α : Type} [DecidableEq α] [Inhabited α] {l : List α} {k : Nat} (h0 : 0 < k) (h : k < l.length) : fJ (l.take (k + 1)) = if l.getD k default = l.getD (k - 1) default then fJ (l.take k) else fJ (l.take k) ++ [l.getD k default] := by
 rw [dn h]
 cases l with
 | nil => simp at h
 | cons x t =>
  obtain ⟨j, rfl⟩ : ∃ j, k = j + 1 := ⟨k - 1, by omega⟩
  simp only [List.take_succ_cons, List.cons_append, fJ]
  rw [qq]
  have e : (x :: t.take j).getLast (by simp) = (x :: t).getD (j + 1 - 1) default := by
   rw [List.getLast_eq_getElem]
   simp only [List.length_cons, List.length_take, Nat.add_sub_cancel]
   have hj : j ≤ t.length := by simp at h; omega
   simp only [Nat.min_eq_left hj]
   cases j with
   | zero => simp
   | succ j => simp [List.getD_eq_getElem?_getD, show j < t.length by omega]
  rw [e]
  split <;> rfl
theorem lw {α : Type} [DecidableEq α] [Inhabited α] {l : List α} : ∀ {k : Nat}, k ≤ l.length → (∀ j, 0 < j → j < k → l.getD j default ≠ l.getD (j - 1) default) → fJ (l.take k) = l.take k
 | 0, _, _ => by simp [fJ]
 | k + 1, h, hne => by
  by_cases h0 : k = 0
  ·subst h0
   cases l with
   | nil => simp at h
   | cons x t => simp [fJ, nq]
  ·rw [lu (by omega) (by omega), if_neg (hne k (by omega) (by omega)), lw (by omega) (fun j a b => hne j a (by omega)), dn (by omega)]
def inK (l : List Ins) (a : UInt32) : Bool := l.any fun x => decide (x.addr = a)
def g9 (out : List Ins) (i : Ins) : List Ins := if (!inK out i.addr && decide (iZ i = 0)) = true then out ++ [i] else out
def sj (l : List Ins) : List Ins := l.foldl g9 []
def xI (out : List Ins) : List (UInt32 × Bool) := out.map fun i => (i.addr, true)
theorem ES (out : List Ins) (a : UInt32) : (dK (xI out) a).getD false = inK out a := by
 induction out with
 | nil => rfl
 | cons x t ih =>
  unfold xI at ih ⊢
  simp only [List.map_cons, dK, inK, List.any_cons]
  by_cases h : a = x.addr
  ·simp [h]
  ·have h' : ¬ x.addr = a := fun q => h q.symm
   rw [if_neg h, decide_eq_false h', Bool.false_or]; exact ih
theorem ER {out : List Ins} {i : Ins} (h : inK out i.addr = false) : fg (xI out) i.addr true = xI (out ++ [i]) := by
 have : dK (xI out) i.addr = none := by
  cases hg : dK (xI out) i.addr with
  | none => rfl
  | some b =>
   exfalso
   have hm := sJ hg
   obtain ⟨x, hx, e⟩ := List.mem_map.1 hm
   have : inK out i.addr = true := List.any_eq_true.2 ⟨x, hx, by simp at e; simp [e.1]⟩
   rw [h] at this; cases this
 rw [qX this]
 simp [xI]
theorem zx {l : List Ins} {k : Nat} (h : k < l.length) : sj (l.take (k + 1)) = g9 (sj (l.take k)) (l.getD k default) := by
 unfold sj; rw [dn h, List.foldl_append]; rfl
theorem BO : ∀ (l out : List Ins), (l.foldl g9 out).length ≤ out.length + l.length
 | [], out => by simp
 | i :: t, out => by
  have h1 := BO t (g9 out i)
  have h2 : (g9 out i).length ≤ out.length + 1 := by unfold g9; split <;> simp
  simp only [List.foldl_cons, List.length_cons]; omega
theorem zB (l : List Ins) : (sj l).length ≤ l.length := by have := BO l []; simpa [sj] using this
def fF (l : List Ins) : List Ins := mg (ltOf lx) (sj l)
theorem uQ (l : List Ins) : (fF l).length ≤ l.length := by unfold fF; rw [ln kF]; exact zB l
def tl (m : List (UInt32 × Bool)) (i : Ins) : List (UInt32 × Bool) := if (de i).2 = true then fg m (de i).1 true else m
def qF (l : List Ins) : List (UInt32 × Bool) := l.foldl tl []
theorem yo {l : List Ins} {k : Nat} (h : k < l.length) : qF (l.take (k + 1)) = tl (qF (l.take k)) (l.getD k default) := by
 unfold qF; rw [dn h, List.foldl_append]; rfl
def H3 (l : List UInt32) (a : UInt32) : Bool := l.any fun x => decide (a = x)
def fZ (ents : List UInt32) (tm : List (UInt32 × Bool)) (i : Ins) : Int := if H3 ents i.addr = true then 0 else if (dK tm i.addr).getD false = true then 1 else 2
def Gs (ents : List UInt32) (tm : List (UInt32 × Bool)) (x y : Ins) : Int := AO (fZ ents tm x) (fZ ents tm y)
def gB (kept : List Ins) (i : Ins) : List Ins := if kept.any (jv i) = true then kept else kept ++ [i]
def lj (order : List Ins) : List Ins := order.foldl gB []
theorem v8 {l : List Ins} {k : Nat} (h : k < l.length) : lj (l.take (k + 1)) = gB (lj (l.take k)) (l.getD k default) := by
 unfold lj; rw [dn h, List.foldl_append]; rfl
theorem yX : ∀ (l out : List Ins), (l.foldl gB out).length ≤ out.length + l.length
 | [], out => by simp
 | i :: t, out => by
  have h1 := yX t (gB out i)
  have h2 : (gB out i).length ≤ out.length + 1 := by unfold gB; split <;> simp
  simp only [List.foldl_cons, List.length_cons]; omega
theorem rZ (l : List Ins) : (lj l).length ≤ l.length := by have := yX l []; simpa [lj] using this
theorem wa : ∀ (l out : List Ins) (x : Ins), x ∈ l.foldl gB out → x ∈ out ∨ x ∈ l
 | [], out, x, h => .inl h
 | i :: t, out, x, h => by
  rcases wa t (gB out i) x h with h | h
  ·unfold gB at h
   split at h
   ·exact .inl h
   ·rcases List.mem_append.1 h with h | h
    ·exact .inl h
    ·simp at h; subst h; exact .inr (.head _)
  ·exact .inr (.tail _ h)
theorem yW {l : List Ins} {x : Ins} (h : x ∈ lj l) : x ∈ l := by
 rcases wa l [] x h with h | h
 ·cases h
 ·exact h
def nf (l kept : List Ins) : List UInt32 := (l.filter fun i => !inK kept i.addr).map (·.addr)
def dV (g : Ins → Int) (l : List Ins) : List Ins := l.filter (fun i => decide (g i = 0)) ++ (l.filter (fun i => decide (g i = 1)) ++ l.filter (fun i => decide (g i = 2)))
theorem Gr (a b : Int) : AO a b < 0 ↔ a < b := by
 unfold AO
 split
 ·rename_i h; simp [h]
 ·split <;> simp_all
def ltG (g : Ins → Int) (x y : Ins) : Bool := decide (g x < g y)
theorem Dj (g : Ins → Int) : WO (ltG g) where
 irr x := by simp [ltG]
 tr x y z h1 h2 := by simp only [ltG, decide_eq_true_eq] at *; omega
 ntr x y z h1 h2 := by simp only [ltG, decide_eq_false_iff_not] at *; omega
theorem Gl (g : Ins → Int) (z x : Ins) : eqv (ltG g) z x = decide (g x = g z) := by
 unfold eqv ltG
 by_cases h : g x = g z
 ·simp [h]
 ·rw [decide_eq_false h]
  by_cases c : g z < g x
  ·simp [c]
  ·have : g x < g z := by omega
   simp [c, this]
theorem lF (ents : List UInt32) (tm : List (UInt32 × Bool)) (i : Ins) : fZ ents tm i = 0 ∨ fZ ents tm i = 1 ∨ fZ ents tm i = 2 := by
 unfold fZ
 repeat' split
 all_goals simp
theorem qU {g : Ins → Int} (hg : ∀ i, g i = 0 ∨ g i = 1 ∨ g i = 2) (l : List Ins) : Stab (ltG g) l (dV g l) ∧ (dV g l).Pairwise fun x y => ltG g y x = false := by
 refine ⟨⟨?_, fun z => ?_⟩, ?_⟩
 ·induction l with
  | nil => exact List.Perm.refl _
  | cons x t ih =>
   rcases hg x with h | h | h
   ·have e : dV g (x :: t) = x :: dV g t := by simp [dV, h]
    rw [e]; exact ih.cons x
   ·have e : dV g (x :: t) = t.filter (fun i => decide (g i = 0)) ++ x :: (t.filter (fun i => decide (g i = 1)) ++ t.filter (fun i => decide (g i = 2))) := by simp [dV, h]
    rw [e]; exact (ih.cons x).trans List.perm_middle.symm
   ·have e : dV g (x :: t) = (t.filter (fun i => decide (g i = 0)) ++ t.filter (fun i => decide (g i = 1))) ++ x :: t.filter (fun i => decide (g i = 2)) := by simp [dV, h]
    rw [e]
    refine (ih.cons x).trans ?_
    refine List.Perm.trans ?_ List.perm_middle.symm
    rw [List.append_assoc]; exact List.Perm.refl _
 ·have e : (fun x => eqv (ltG g) z x) = fun x => decide (g x = g z) := by funext x; exact Gl g z x
  show l.filter (fun x => eqv (ltG g) z x) = (dV g l).filter (fun x => eqv (ltG g) z x)
  rw [e]
  unfold dV
  rw [List.filter_append, List.filter_append, List.filter_filter, List.filter_filter, List.filter_filter]
  have hn : ∀ c : Int, c ≠ g z → l.filter (fun x => decide (g x = g z) && decide (g x = c)) = [] := fun c hc => by
   rw [List.filter_eq_nil_iff]
   intro x _
   simp only [Bool.and_eq_true, decide_eq_true_eq, not_and]
   intro q1 q2; exact hc (q2.symm.trans q1)
  have hy : ∀ c : Int, c = g z → l.filter (fun x => decide (g x = g z) && decide (g x = c)) = l.filter (fun x => decide (g x = g z)) := fun c hc => by subst hc; simp
  rcases hg z with h | h | h
  ·rw [hy 0 h.symm, hn 1 (by omega), hn 2 (by omega)]; simp
  ·rw [hn 0 (by omega), hy 1 h.symm, hn 2 (by omega)]; simp
  ·rw [hn 0 (by omega), hn 1 (by omega), hy 2 h.symm]; simp
 ·have hc : ∀ c : Int, (l.filter (fun i => decide (g i = c))).Pairwise fun x y => ltG g y x = false := fun c => by
   rw [List.pairwise_iff_forall_sublist]
   intro a b hab
   have ha : a ∈ l.filter (fun i => decide (g i = c)) := hab.subset (by simp)
   have hb : b ∈ l.filter (fun i => decide (g i = c)) := hab.subset (by simp)
   have := of_decide_eq_true (List.mem_filter.1 ha).2
   have := of_decide_eq_true (List.mem_filter.1 hb).2
   simp only [ltG, decide_eq_false_iff_not]; omega
  have hx : ∀ (c d : Int), c ≤ d → ∀ x ∈ l.filter (fun i => decide (g i = c)), ∀ y ∈ l.filter (fun i => decide (g i = d)), ltG g y x = false := fun c d h x hx y hy => by
   have := of_decide_eq_true (List.mem_filter.1 hx).2
   have := of_decide_eq_true (List.mem_filter.1 hy).2
   simp only [ltG, decide_eq_false_iff_not]; omega
  unfold dV
  refine List.pairwise_append.2 ⟨hc 0, List.pairwise_append.2 ⟨hc 1, hc 2, hx 1 2 (by omega)⟩, fun x h1 y h2 => ?_⟩
  rcases List.mem_append.1 h2 with h2 | h2
  ·exact hx 0 1 (by omega) x h1 y h2
  ·exact hx 0 2 (by omega) x h1 y h2
theorem Hd {g : Ins → Int} (hg : ∀ i, g i = 0 ∨ g i = 1 ∨ g i = 2) {l c : List Ins} (h1 : Stab (ltG g) l c) (h2 : c.Pairwise fun x y => ltG g y x = false) : c = dV g l := by
 obtain ⟨k1, k2⟩ := qU hg l
 exact rL (Dj g) _ _ (h1.symm.trans k1) h2 k2
theorem BN : ∀ (l out : List Ins) (x : Ins), x ∈ l.foldl g9 out → x ∈ out ∨ x ∈ l
 | [], out, x, h => .inl h
 | i :: t, out, x, h => by
  rcases BN t (g9 out i) x h with h | h
  ·unfold g9 at h
   split at h
   ·rcases List.mem_append.1 h with h | h
    ·exact .inl h
    ·simp at h; subst h; exact .inr (.head _)
   ·exact .inl h
  ·exact .inr (.tail _ h)
theorem uP {l : List Ins} {x : Ins} (h : x ∈ fF l) : x ∈ l := by
 have h1 := (nL kF (sj l)).subset h
 rcases BN l [] x h1 with h | h
 ·cases h
 ·exact h
theorem xf {g : Ins → Int} (hg : ∀ i, g i = 0 ∨ g i = 1 ∨ g i = 2) (l : List Ins) : (dV g l).length = l.length := (qU hg l).1.len
theorem Bw {g : Ins → Int} {l : List Ins} {x : Ins} (h : x ∈ dV g l) : x ∈ l := by
 unfold dV at h
 simp only [List.mem_append, List.mem_filter] at h
 rcases h with h | h | h <;> exact h.1
theorem FN {l kept : List Ins} {k : Nat} (h : k < l.length) (hc : inK kept (l.getD k default).addr = false) : nf (l.take (k + 1)) kept = nf (l.take k) kept ++ [(l.getD k default).addr] := by
 unfold nf
 rw [kX h (by rw [hc]; rfl), List.map_append]; rfl
theorem G8 {l kept : List Ins} {k : Nat} (h : k < l.length) (hc : inK kept (l.getD k default).addr = true) : nf (l.take (k + 1)) kept = nf (l.take k) kept := by
 unfold nf
 rw [kY h (by rw [hc]; rfl)]
theorem FO (l kept : List Ins) : (nf l kept).length ≤ l.length := by unfold nf; rw [List.length_map]; exact List.length_filter_le _ _
structure ResV where
 kept : List Ins
 ents : List UInt32
 unk : List UInt32
 bad : List UInt32
 rem : List UInt32
def gz (ins : List Ins) (ents unk bad : List UInt32) : ResV :=
 let l := fF ins
 let kept := mg (ltOf lx) (lj (dV (fZ ents (qF l)) l))
 ⟨kept, ents.filter (inK kept), unk.filter (inK kept), bad, nf l kept⟩
end Go.HL
namespace Go.HL
open Go Go.Sort
open Go.Proofs (ltOf)
section
variable {α : Type} [DecidableEq α] [Inhabited α]
theorem wY {lt : α → α → Bool} (irr : ∀ x, lt x x = false) (tr : ∀ x y z, lt x y = true → lt y z = true → lt x z = true) : ∀ (l m : List α), l.Pairwise (fun a b => lt a b = true) → m.Pairwise (fun a b => lt a b = true) → (∀ x, x ∈ l ↔ x ∈ m) → l = m
 | [], [], _, _, _ => rfl
 | [], y :: m, _, _, h => absurd ((h y).2 (.head _)) (by simp)
 | x :: l, [], _, _, h => absurd ((h x).1 (.head _)) (by simp)
 | x :: l, y :: m, h1, h2, h => by
  have p1 := List.pairwise_cons.1 h1
  have p2 := List.pairwise_cons.1 h2
  have e : x = y := by
   rcases List.mem_cons.1 ((h x).1 (.head _)) with e | hx
   ·exact e
   ·rcases List.mem_cons.1 ((h y).2 (.head _)) with e | hy
    ·exact e.symm
    ·have := tr _ _ _ (p2.1 x hx) (p1.1 y hy)
     rw [irr] at this; cases this
  subst e
  have : l = m := wY irr tr l m p1.2 p2.2 fun z => by
   constructor
   ·intro hz
    rcases List.mem_cons.1 ((h z).1 (.tail _ hz)) with e | hm
    ·subst e; have := p1.1 z hz; rw [irr] at this; cases this
    ·exact hm
   ·intro hz
    rcases List.mem_cons.1 ((h z).2 (.tail _ hz)) with e | hm
    ·subst e; have := p2.1 z hz; rw [irr] at this; cases this
    ·exact hm
  rw [this]
end
def D1 (a b : Ins) : Bool := (((decide (a.addr ≠ b.addr) && decide (iZ a = 0)) && decide (iZ b = 0)) && decide ((a.addr.toNat : Int) < uO b)) && decide ((b.addr.toNat : Int) < uO a)
theorem xm {i : Ins} : 0 < iD i ↔ iZ i = 0 := by
 unfold iD
 split
 ·rename_i h
  have := (enc_facts0 i)
  constructor
  ·intro _; exact h
  ·intro _
   unfold ff
   repeat' split
   all_goals omega
 ·rename_i h; constructor
  ·intro q; omega
  ·intro q; exact absurd q h
where enc_facts0 (i : Ins) : True := trivial
theorem uS {a b : Ins} : jv a b = true ↔ a.addr.toNat ≠ b.addr.toNat ∧ iZ a = 0 ∧ iZ b = 0 ∧ (a.addr.toNat : Int) < uO b ∧ (b.addr.toNat : Int) < uO a := by
 have e : a.addr ≠ b.addr ↔ a.addr.toNat ≠ b.addr.toNat := by rw [Ne, Ne, UInt32.toNat_inj]
 unfold jv
 simp only [Bool.and_eq_true, decide_eq_true_eq, xm, FU, e]
 have h1 := xl a
 have h2 := xl b
 unfold uO
 constructor
 ·rintro ⟨⟨⟨q1, q2⟩, q3⟩, q4⟩; refine ⟨q1, q2, q3, ?_, ?_⟩ <;> omega
 ·rintro ⟨q1, q2, q3, q4, q5⟩
  have p1 := xm.2 q2
  have p2 := xm.2 q3
  exact ⟨⟨⟨q1, q2⟩, q3⟩, by omega⟩
theorem HT (a b : Ins) : D1 a b = jv a b := by
 rw [Bool.eq_iff_iff, uS]
 have e : a.addr ≠ b.addr ↔ a.addr.toNat ≠ b.addr.toNat := by rw [Ne, Ne, UInt32.toNat_inj]
 unfold D1
 simp only [Bool.and_eq_true, decide_eq_true_eq, e]
 exact ⟨fun ⟨⟨⟨⟨q1, q2⟩, q3⟩, q4⟩, q5⟩ => ⟨q1, q2, q3, q4, q5⟩, fun ⟨q1, q2, q3, q4, q5⟩ => ⟨⟨⟨⟨q1, q2⟩, q3⟩, q4⟩, q5⟩⟩
theorem EP (a b : Ins) : jv a b = jv b a := by
 rw [Bool.eq_iff_iff, uS, uS]
 exact ⟨fun ⟨q1, q2, q3, q4, q5⟩ => ⟨Ne.symm q1, q3, q2, q5, q4⟩, fun ⟨q1, q2, q3, q4, q5⟩ => ⟨Ne.symm q1, q3, q2, q5, q4⟩⟩
end Go.HL
namespace Go.Proofs.YtiajjbhcpeadfaaGreat
open Go Go.HL Go.RowKit
theorem zC (a b : UInt32) (w : World) :
  Calls Tryz.prog 84 #[.int .u32 a.toNat, .int .u32 b.toNat] w (fun e w' => e = .returned (.int .i64 (uT a b)) ∧ Ext w w') := by
 refine enter Tryz.func84 rfl Tryz.ntmps84 rfl ?_
 refine af (zz0 (ab rfl) (aI (zz0 (aa rfl) (zz0 (aA rfl od (fun w hw => qW a w)) ?_))))
 refine zz0 (ab rfl) (aI (zz0 (aa rfl) (zz0 (aA rfl od (fun w hw => qW b w)) ?_)))
 refine zz0 (ab rfl) (ad (al (af (zz0 (aa rfl) (ad ?_)))))
 refine an rfl ?_ ?_ <;> intro h1 <;> try simp only [bs] at h1
 ·first | contradiction | (exfalso; omega) | simp_all
 ·refine bA (al (af (zz0 (aa rfl) (ad ?_))))
  refine an rfl ?_ ?_ <;> intro h2 <;> try simp only [bs] at h2
  ·first | contradiction | (exfalso; omega) | simp_all
  ·refine bA (al (af (zz0 (aa rfl) (zz0 (aa rfl) (zz0 (iH rfl rfl) ?_)))))
   refine ad ?_
   refine an rfl ?_ ?_ <;> intro h3 <;> try simp only [bs] at h3
   ·refine af (zz0 (ab rfl) (ad (az (ay ?_))))
    refine aT Tryz.results84 rfl (fun w' hw => ?_)
    exact ⟨by rw [uT, if_pos (by assumption)], hw.b0⟩
   ·refine bA (al (af (zz0 (aa rfl) (zz0 (aa rfl) (zz0 (kP rfl rfl) ?_)))))
    refine ad ?_
    refine an rfl ?_ ?_ <;> intro h4 <;> try simp only [bs] at h4
    ·refine af (zz0 (ab rfl) (ad (az (ay ?_))))
     refine aT Tryz.results84 rfl (fun w' hw => ?_)
     exact ⟨by rw [uT, if_neg (by assumption), if_pos (by assumption)], hw.b0⟩
    ·refine dh (zz0 (ab rfl) (ad (az ?_)))
     refine aT Tryz.results84 rfl (fun w' hw => ?_)
     exact ⟨by rw [uT, if_neg (by assumption), if_neg (by assumption)], hw.b0⟩
theorem yP (a : Int) (w : World) :
  Calls Tryz.prog 147 #[.int .i64 a] w (fun e w' => e = .returned (.bool false) ∧ Ext w w') := by
 refine enter Tryz.func147 rfl Tryz.ntmps147 rfl ?_
 refine af (zz0 (ab rfl) (aI (zz0 (aa rfl) (zz0 (aa rfl) (zz0 (fU rfl rfl) (zz0 (ab rfl) (ad (az ?_))))))))
 refine aT Tryz.results147 rfl (fun w' hw => ?_)
 exact ⟨by simp, hw.b0⟩
theorem ET (a b : Int) (w : World) :
  Calls Tryz.prog 80 #[.int .i64 a, .int .i64 b] w (fun e w' => e = .returned (.int .i64 (AO a b)) ∧ Ext w w') := by
 refine enter Tryz.func80 rfl Tryz.ntmps80 rfl ?_
 refine af (zz0 (ab rfl) (aI (zz0 (aa rfl) (zz0 (aA rfl Tryz.call147 (fun w hw => yP a w)) ?_))))
 refine zz0 (ab rfl) (aI (zz0 (aa rfl) (zz0 (aA rfl Tryz.call147 (fun w hw => yP b w)) ?_)))
 refine zz0 (ab rfl) (ad (al (af (zz0 (aa rfl) (ad ?_)))))
 refine an rfl ?_ ?_ <;> intro h1 <;> try simp only [bs] at h1
 ·first | contradiction | (exfalso; omega) | simp_all
 ·refine bA (al (af (zz0 (aa rfl) (ad ?_))))
  refine an rfl ?_ ?_ <;> intro h2 <;> try simp only [bs] at h2
  ·first | contradiction | (exfalso; omega) | simp_all
  ·refine bA (al (af (zz0 (aa rfl) (zz0 (aa rfl) (zz0 (bP rfl rfl) (ad ?_))))))
   refine an rfl ?_ ?_ <;> intro h3 <;> try simp only [bs] at h3
   ·refine af (zz0 (ab rfl) (ad (az (ay ?_))))
    refine aT Tryz.results80 rfl (fun w' hw => ?_)
    exact ⟨by rw [AO, if_pos (by assumption)], hw.b0⟩
   ·refine bA (al (af (zz0 (aa rfl) (zz0 (aa rfl) (zz0 (eo rfl rfl) (ad ?_))))))
    refine an rfl ?_ ?_ <;> intro h4 <;> try simp only [bs] at h4
    ·refine af (zz0 (ab rfl) (ad (az (ay ?_))))
     refine aT Tryz.results80 rfl (fun w' hw => ?_)
     exact ⟨by rw [AO, if_neg (by assumption), if_pos (by assumption)], hw.b0⟩
    ·refine dh (zz0 (ab rfl) (ad (az ?_)))
     refine aT Tryz.results80 rfl (fun w' hw => ?_)
     exact ⟨by rw [AO, if_neg (by assumption), if_neg (by assumption)], hw.b0⟩
theorem wd (l : List UInt32) (V : Value) (a : UInt32) (w : World) (hV : Sl (hp w) ar l V) :
  Calls Tryz.prog 145 #[V, .int .u32 a.toNat] w (fun e w' => e = .returned (.int .i64 (dW (fun x => decide (a = x)) 0 l)) ∧ Ext w w') := by
 have hV' : Sl (Bg.of w).blk ar l V := hV
 have hlen := hV.len_le
 refine enter Tryz.func145 rfl Tryz.ntmps145 rfl ?_
 refine af (zz0 (ab rfl) (ad (al (af (zz0 (aa rfl) (zz0 (gx rfl ah) ?_))))))
 refine zz0 (aa rfl) (ad (aD ?_))
 refine bK (ι := Nat) (fun k => k ≤ l.length ∧ dW (fun x => decide (a = x)) k (l.drop k) = dW (fun x => decide (a = x)) 0 l) (fun _ => _) (fun k => []) (fun k => [(8, .int .i64 (k : Nat))]) (fun k => l.length - k) 0 ⟨Nat.zero_le _, rfl⟩ (Front.c Front.nil) (by repeat' constructor) rfl (fun k hi m hm => ?_)
 replace hi : k ≤ l.length ∧ dW (fun x => decide (a = x)) k (l.drop k) = dW (fun x => decide (a = x)) 0 l := hi
 replace hm : m = l.length - k := hm
 change Tr _ _ [] ([(8, .int .i64 (k : Nat))] ++ _) _
 obtain ⟨hk1, hk2⟩ := hi
 refine af (zz0 (bP rfl rfl) (ad (al ?_)))
 refine an rfl ?_ ?_ <;> intro h1 <;> try simp only [bs] at h1
 ·refine bA (al (aD (af (zz0 (aa rfl) (zz0 (ab rfl) (aI (zz0 (aa rfl) (zz0 (aa rfl) ?_))))))))
  refine zz0 (aa rfl) (zz0 (gK rfl rfl ah ae) ?_)
  refine zz0 (jx rfl am) ?_
  refine zz0 (eN rfl rfl) ?_
  refine ad ?_
  refine an rfl ?_ ?_ <;> intro h2 <;> try simp only [bs] at h2
  ·refine af (zz0 (aa rfl) (zz0 (ab rfl) (ad (az (bh (ay (ay (bh (ay ?_)))))))))
   refine aT Tryz.results145 rfl (fun w' hw => ?_)
   exact ⟨by rw [← hk2, drop_cons (k := k) (by omega), dW, if_pos (by simp_all)], hw.b0⟩
  ·refine cd (aX (ac (ao (zz0 (cp rfl rfl) ?_))))
   refine zz0 (aa rfl) (ad ?_)
   refine cC (k + 1) (Front.c Front.nil) (bB 12 rfl) (o := ⟨by omega, by rw [← hk2, drop_cons (k := k) (by omega), dW, if_neg (by simp_all)]⟩)
 ·refine bF (aG (aG (bj (ac (af (zz0 (ab rfl) (ad (az ?_))))))))
  refine aT Tryz.results145 rfl (fun w' hw => ?_)
  exact ⟨by rw [← hk2, List.drop_of_length_le (by omega)]; rfl, hw.b0⟩
theorem xF (l : List UInt32) (V : Value) (a : UInt32) (w : World) (hV : Sl (hp w) ar l V) :
  Calls Tryz.prog 76 #[V, .int .u32 a.toNat] w (fun e w' => e = .returned (.bool (H3 l a)) ∧ Ext w w') := by
 have hV' : Sl (Bg.of w).blk ar l V := hV
 have hlen := hV.len_le
 refine enter Tryz.func76 rfl Tryz.ntmps76 rfl ?_
 refine af (zz0 (ab rfl) (aI (zz0 (aa rfl) (zz0 (aa rfl) (zz0 (aA rfl Tryz.call145 (fun w hw => wd l V a w (hw.slF hV'))) ?_)))))
 refine zz0 (eE rfl rfl) (zz0 (ab rfl) (ad (az ?_)))
 refine aT Tryz.results76 rfl (fun w' hw => ?_)
 exact ⟨by rw [rb]; rfl, hw.b0⟩
theorem sk (l : List UInt32) (V : Value) (w : World) (hV : Sl (hp w) ar l V) (hb : l.length ≤ 1000000) :
  Calls Tryz.prog 57 #[V] w (fun e w' => ∃ V', e = .returned V' ∧ Ext w w' ∧ je w w' 23 ar (l) V') := by
 have hV' : Sl (Bg.of w).blk ar l V := hV
 refine enter Tryz.func57 rfl Tryz.ntmps57 rfl ?_
 refine af (zz0 (ab rfl) (ad (al (af (zz0 (aa rfl) (zz0 (qC rfl (by assumption) ah) ?_))))))
 refine ad ?_
 refine an rfl ?_ ?_ <;> intro h1 <;> try simp only [bs] at h1
 ·refine af (zz0 (ab rfl) (ad (az (ay ?_))))
  refine aT Tryz.results57 rfl (fun w' hw => ?_)
  exact ⟨_, rfl, hw.b0, eW (hV.isNil h1)⟩
 ·refine dh ?_
  refine xY ar ah ae rfl (fun V2 => ?_)
  refine zz0 (aa rfl) ?_
  refine B6 rfl rfl (by repeat constructor) (fun w hw => hw.slF (by assumption)) ah eX (fun V3 => ?_)
  refine zz0 (ab rfl) (ad (az ?_))
  refine aT Tryz.results57 rfl (fun w' hw => ?_)
  exact ⟨_, rfl, hw.b0, hw.new (.head _)⟩
theorem wu (l : List Ins) (V : Value) (w : World) (hV : Sl (hp w) aP l V) (hb : l.length ≤ 1000000) :
  Calls Tryz.prog 77 #[V] w (fun e w' => ∃ V', e = .returned V' ∧ Ext w w' ∧ je w w' 36 aP (l) V') := by
 have hV' : Sl (Bg.of w).blk aP l V := hV
 refine enter Tryz.func77 rfl Tryz.ntmps77 rfl ?_
 refine af (zz0 (ab rfl) (ad (al (af (zz0 (aa rfl) (zz0 (qC rfl (by assumption) aM) ?_))))))
 refine ad ?_
 refine an rfl ?_ ?_ <;> intro h1 <;> try simp only [bs] at h1
 ·refine af (zz0 (ab rfl) (ad (az (ay ?_))))
  refine aT Tryz.results77 rfl (fun w' hw => ?_)
  exact ⟨_, rfl, hw.b0, eW (hV.isNil h1)⟩
 ·refine dh ?_
  refine xY aP aM ax rfl (fun V2 => ?_)
  refine zz0 (aa rfl) ?_
  refine B6 rfl rfl (by repeat constructor) (fun w hw => hw.slF (by assumption)) aM kj (fun V3 => ?_)
  refine zz0 (ab rfl) (ad (az ?_))
  refine aT Tryz.results77 rfl (fun w' hw => ?_)
  exact ⟨_, rfl, hw.b0, hw.new (.head _)⟩
theorem qc (l : List Ins) (V : Value) (g : FuncId) (cb : List Value) (w : World) (hV : Sl (hp w) aP l V) (eg : ∀ args w, (callFunc g args).run Tryz.prog w = .ok (.enter g args) w) (p : Ins → Bool) (hp : ∀ x, x ∈ l → ∀ w', Ext w w' → Calls Tryz.prog g ([Value.agg (aP.enc x).toArray] ++ cb).toArray w' fun e w'' => e = .returned (.bool (p x)) ∧ Ext w' w'') :
  Calls Tryz.prog 152 #[V, .func (.func g) #[] cb.toArray] w (fun e w' => e = .returned (.int .i64 (dW p 0 l)) ∧ Ext w w') := by
 have hV' : Sl (Bg.of w).blk aP l V := hV
 have hlen := hV.len_le
 refine enter Tryz.func152 rfl Tryz.ntmps152 rfl ?_
 refine af (zz0 (ab rfl) (ad (al (af (zz0 (aa rfl) (zz0 (gx rfl aM) ?_))))))
 refine zz0 (aa rfl) (ad (aD ?_))
 refine bK (ι := Nat) (fun k => k ≤ l.length ∧ dW p k (l.drop k) = dW p 0 l) (fun _ => _) (fun k => []) (fun k => [(8, .int .i64 (k : Nat))]) (fun k => l.length - k) 0 ⟨Nat.zero_le _, rfl⟩ (Front.c Front.nil) (by repeat' constructor) rfl (fun k hi m hm => ?_)
 replace hi : k ≤ l.length ∧ dW p k (l.drop k) = dW p 0 l := hi
 replace hm : m = l.length - k := hm
 change Tr _ _ [] ([(8, .int .i64 (k : Nat))] ++ _) _
 obtain ⟨hk1, hk2⟩ := hi
 refine af (zz0 (bP rfl rfl) (ad (al ?_)))
 refine an rfl ?_ ?_ <;> intro h1 <;> try simp only [bs] at h1
 ·refine bA (al (aD (af (zz0 (aa rfl) (zz0 (ab rfl) (aI (zz0 (aa rfl) (zz0 (aa rfl) ?_))))))))
  refine zz0 (aa rfl) (zz0 (gK rfl rfl aM ax) ?_)
  refine zz0 (mE rfl aU ax) ?_
  refine zz0 (io rfl rfl eg (fun w hw => hp _ (cZ (by omega)) w (hw.b0))) ?_
  refine ad ?_
  refine an rfl ?_ ?_ <;> intro h2 <;> try simp only [bs] at h2
  ·refine af (zz0 (aa rfl) (zz0 (ab rfl) (ad (az (bh (ay (ay (bh (ay ?_)))))))))
   refine aT Tryz.results152 rfl (fun w' hw => ?_)
   exact ⟨by rw [← hk2, drop_cons (k := k) (by omega), dW, if_pos (by assumption)], hw.b0⟩
  ·refine cd (aX (ac (ao (zz0 (cp rfl rfl) ?_))))
   refine zz0 (aa rfl) (ad ?_)
   refine cC (k + 1) (Front.c Front.nil) (bB 12 rfl) (o := ⟨by omega, by rw [← hk2, drop_cons (k := k) (by omega), dW, if_neg (by simp_all)]⟩)
 ·refine bF (aG (aG (bj (ac (af (zz0 (ab rfl) (ad (az ?_))))))))
  refine aT Tryz.results152 rfl (fun w' hw => ?_)
  exact ⟨by rw [← hk2, List.drop_of_length_le (by omega)]; rfl, hw.b0⟩
theorem np (l : List Ins) (V : Value) (g : FuncId) (cb : List Value) (w : World) (hV : Sl (hp w) aP l V) (eg : ∀ args w, (callFunc g args).run Tryz.prog w = .ok (.enter g args) w) (p : Ins → Bool) (hp : ∀ x, x ∈ l → ∀ w', Ext w w' → Calls Tryz.prog g ([Value.agg (aP.enc x).toArray] ++ cb).toArray w' fun e w'' => e = .returned (.bool (p x)) ∧ Ext w' w'') :
  Calls Tryz.prog 86 #[V, .func (.func g) #[] cb.toArray] w (fun e w' => e = .returned (.bool (l.any p)) ∧ Ext w w') := by
 have hV' : Sl (Bg.of w).blk aP l V := hV
 refine enter Tryz.func86 rfl Tryz.ntmps86 rfl ?_
 refine af (zz0 (ab rfl) (aI (zz0 (aa rfl) (zz0 (aa rfl) (zz0 (aA rfl Tryz.call152 (fun w hw => qc l V g cb w (hw.slF hV') eg p (fun x hx w'' h => hp x hx w'' ((hw.b0).trans h)))) ?_)))))
 refine zz0 (eE rfl rfl) (zz0 (ab rfl) (ad (az ?_)))
 refine aT Tryz.results86 rfl (fun w' hw => ?_)
 exact ⟨by rw [rb], hw.b0⟩
theorem pC (a b : List UInt32) (V W : Value) (w : World) (hV : Sl (hp w) ar a V) (hW : Sl (hp w) ar b W) :
  Calls Tryz.prog 22 #[V, W] w (fun e w' => e = .returned (.bool (decide (a = b))) ∧ Ext w w') := by
 have hV' : Sl (Bg.of w).blk ar a V := hV
 have hW' : Sl (Bg.of w).blk ar b W := hW
 have hl1 := hV.len_le
 have hl2 := hW.len_le
 refine enter Tryz.func22 rfl Tryz.ntmps22 rfl ?_
 refine af (zz0 (ab rfl) (ad (al (af (zz0 (aa rfl) (zz0 (gx rfl ah) ?_))))))
 refine zz0 (aa rfl) (zz0 (gx rfl ah) ?_)
 refine zz0 (fU rfl rfl) (ad ?_)
 refine an rfl ?_ ?_ <;> intro h1 <;> try simp only [bs] at h1
 ·refine af (zz0 (ab rfl) (ad (az (ay ?_))))
  refine aT Tryz.results22 rfl (fun w' hw => ?_)
  exact ⟨by rw [decide_eq_false (fun e => by subst e; omega)], hw.b0⟩
 ·refine bA (al (af (zz0 (ab rfl) (ad (aD ?_)))))
  refine bK (ι := Nat) (fun k => k ≤ a.length ∧ a.take k = b.take k) (fun _ => _) (fun k => []) (fun k => [(5, .int .i64 (k : Nat))]) (fun k => a.length - k) 0 ⟨by omega, rfl⟩ (Front.c Front.nil) (by repeat' constructor) rfl (fun k hi m hm => ?_)
  replace hi : k ≤ a.length ∧ a.take k = b.take k := hi
  replace hm : m = a.length - k := hm
  change Tr _ _ [] ([(5, .int .i64 (k : Nat))] ++ _) _
  obtain ⟨hk1, hk3⟩ := hi
  refine al (af (zz0 (aa rfl) (zz0 (aa rfl) (zz0 (gx rfl ah) ?_))))
  refine zz0 (bP rfl rfl) (ad ?_)
  refine an rfl ?_ ?_ <;> intro h2 <;> try simp only [bs] at h2
  ·refine bA (al (aD (al (gQ aS ?_))))
   refine aw (aa rfl) (aw (aa rfl) (aw (gK rfl rfl ah ae) ?_))
   refine aw (jx rfl am) ?_
   refine aw (aa rfl) (aw (aa rfl) (aw (gK rfl rfl ah ae) ?_))
   refine aw (jx rfl am) ?_
   refine aw (jG rfl rfl) ?_
   refine bH ?_
   refine ac ?_
   refine an rfl ?_ ?_ <;> intro h3 <;> try simp only [bs] at h3
   ·refine af (zz0 (ab rfl) (ad (az (bh (ay (ay (bh (ay ?_))))))))
    refine aT Tryz.results22 rfl (fun w' hw => ?_)
    exact ⟨by rw [decide_eq_false (fun e => by subst e; simp_all)], hw.b0⟩
   ·refine cd (aX (ac (ao (zz0 (aa rfl) (zz0 (cp rfl rfl) ?_)))))
    refine zz0 (ab rfl) (ad ?_)
    refine cC (k + 1) (Front.c Front.nil) (bB 17 rfl) (o := ⟨by omega, by rw [dn (by omega), dn (by omega), hk3]; congr 2⟩)
  ·refine bF (aG (aG (bj (ac (af (zz0 (ab rfl) (ad (az ?_))))))))
   refine aT Tryz.results22 rfl (fun w' hw => ?_)
   exact ⟨by rw [decide_eq_true (show a = b by rw [← List.take_of_length_le (show a.length ≤ k by omega), hk3, List.take_of_length_le (by omega)])], hw.b0⟩
end Go.Proofs.YtiajjbhcpeadfaaGreat
namespace Go.HL
open Go
def eP : Enc (Int × Bool) := ⟨2, fun e => [.int .i64 e.1, .bool e.2], fun _ => rfl, fun x v h => by simp at h; rcases h with h | h <;> subst h <;> rfl⟩
def jS (l : List Ins) (st : List StV) (gd : List Int) (k : Nat) (e : Int × Bool) : StV :=
 if (l.getD k default).op = 23 ∨ (l.getD k default).op = 24 then ym
 else if (l.getD k default).op = 20 ∧ 0 ≤ gd.getD k default then qS (l.getD k default).cc (l.getD (gd.getD k default).toNat default) (st.getD k default) e.2
 else iV (l.getD k default) (st.getD k default)
def jg (l : List Ins) (st : List StV) (a : UInt32) : StV × Bool :=
 if dW (fun i : Ins => decide (i.addr = a)) 0 l < 0 ∨ (st.length : Int) ≤ dW (fun i : Ins => decide (i.addr = a)) 0 l then (gy, false)
 else (st.getD (dW (fun i : Ins => decide (i.addr = a)) 0 l).toNat default, true)
section
variable {P : Program} {N : Nat} {F : Bg} {L L' A : List Ent} {M : Fr} {X : Act → World → Prop}
theorem Bt {α : Type} {f : α → Ent} : ∀ (rs : List α) (i : Nat) (h : i < rs.length), (rs.map f).Perm (f rs[i] :: (rs.eraseIdx i).map f)
 | x :: t, 0, _ => .refl _
 | x :: t, i + 1, h => ((Bt t i (by simpa using h)).cons (f x)).trans (.swap _ _ _)
theorem yL {α : Type} {f : α → Ent} (y : α) : ∀ (rs : List α) (i : Nat) (h : i < rs.length), (f y :: (rs.eraseIdx i).map f).Perm ((rs.set i y).map f)
 | x :: t, 0, _ => .refl _
 | x :: t, i + 1, h => (List.Perm.swap _ _ _).trans ((yL y t i (by simpa using h)).cons (f x))
theorem Cw {α : Type} {f : α → Ent} {rs : List α} (i : Nat) (h : i < rs.length) : (A ++ (rs.map f ++ L)).Perm (f rs[i] :: (A ++ ((rs.eraseIdx i).map f ++ L))) :=
 (((Bt rs i h).append_right L).append_left A).trans List.perm_middle
theorem Cv {α : Type} {f : α → Ent} {rs : List α} (i : Nat) (y : α) (h : i < rs.length) : (f y :: (A ++ ((rs.eraseIdx i).map f ++ L))).Perm (A ++ ((rs.set i y).map f ++ L)) :=
 List.perm_middle.symm.trans (((yL y rs i h).append_right L).append_left A)
theorem Gx {α : Type} {f : α → Ent} {rs : List α} (i : Nat) (h : i < rs.length) (K : Tr N F (f rs[i] :: (A ++ ((rs.eraseIdx i).map f ++ L))) M X) : Tr N F (A ++ (rs.map f ++ L)) M X :=
 fun a w ha hw => K a w ha (hw.perm (Cw i h).symm)
theorem xX {α : Type} {f : α → Ent} {rs : List α} (i : Nat) (y : α) (h : i < rs.length) (K : Tr N F (A ++ ((rs.set i y).map f ++ L)) M X) : Tr N F (f y :: (A ++ ((rs.eraseIdx i).map f ++ L))) M X :=
 fun a w ha hw => K a w ha (hw.perm (Cv i y h).symm)
theorem ry {α : Type} {T : TypeId} {E : Enc α} : ∀ (rs : List (Value × List α)) {F : Bg}, (∀ F', F.le F' → (∀ r ∈ rs, Sl F'.blk E r.2 r.1) → Tr N F' L M X) → Tr N F (rs.map (fun r => rowE r.1 T E r.2) ++ L) M X
  | [], F, K => K F (Bg.le.refl _) (fun r hr => absurd hr (by simp))
  | r :: t, F, K => ki (V := r.1) (T := T) (E := E) (l := r.2) (.here _) fun F1 h1 hs => ry t fun F2 h2 ht => K F2 (h1.trans h2) (fun x hx => by
      rcases List.mem_cons.1 hx with rfl | hx
      · exact hs.mono h2.blk
      · exact ht x hx)
end
end Go.HL
namespace Go.HL
open Go Go.RowKit
section
variable {P : Program}
inductive FieldsRS (P : Program) (d : Nat) (xs ys : Array Value) : List Field → List Bool → Prop
 | nil : FieldsRS P d xs ys [] []
 | cons {f : Field} {fs : List Field} {u v : Value} {b : Bool} {bs : List Bool} (hn : f.name ≠ "_") (hx : ∀ w, (part f.type xs f.offset).run P w = .ok u w) (hy : ∀ w, (part f.type ys f.offset).run P w = .ok v w)
   (he : ∀ w, (Op.equalIn d f.type u v).run P w = .ok b w) (h : FieldsRS P d xs ys fs bs) : FieldsRS P d xs ys (f :: fs) (b :: bs)
theorem ov {d : Nat} {xs ys : Array Value} (w : World) : ∀ {fs : List Field} {bs : List Bool}, FieldsRS P d xs ys fs bs → (Op.eqFields d xs ys fs).run P w = .ok (bs.all id) w
 | [], _, .nil => by simp [Op.eqFields]
 | f :: fs, _, .cons (b := b) (bs := bs) hn hx hy he h => by
  have ih := ov w h
  simp only [Op.eqFields, hn, ne_eq, not_false_eq_true, if_true, Sem.run_bind, List.all_cons, hx, hy, he, Result.andThen_ok]
  cases b
  ·simp
  ·simpa using ih
theorem uf {t : TypeId} {cs vs : List Value} {o k : Nat} (ha : ∀ w, (isAgg t).run P w = .ok true w) (hz : ∀ w, (sizeOf t).run P w = .ok k w) (hv : (cs.drop o).take k = vs) (w : World) : (part t cs.toArray o).run P w = .ok (.agg vs.toArray) w := by
 simp [part, ha, hz, hv]
theorem Cl {d : Nat} {t : TypeId} {fs : Array Field} (ht : P.underlying t = some (.struct fs)) (hw : WordFields P fs.toList [.bool, .bool, .int .u32, .int .u32, .int .u32]) (ho : fs.toList.map (·.offset) = [0, 1, 2, 3, 4])
  (hh : P.stoodInHeld t = false) (x y : VSet) (w : World) : (Op.equalIn (d + 1 + 1) t (.agg (bU.enc x).toArray) (.agg (bU.enc y).toArray)).run P w = .ok (decide (x = y)) w := by
 have hf : P.fieldsOf t = fs := by simp [Program.fieldsOf, ht]
 rw [run_equalIn_struct w _ t _ _ (by rw [hf]; exact ht) hh, hf]
 obtain ⟨h1, h2⟩ := tY x y
 rw [jL _ _ _ w fs.toList _ hw (fun j f e hj he => h1 j f.offset e (by rw [← ho]; simp [hj]) he), ← h2, ← ho, List.all_map]
 rfl
theorem Cm {d k : Nat} {t e : TypeId} {xs ys : Array Value} (u v : Nat → Value) (b : Nat → Bool) (ht : P.underlying t = some (.array 8 e)) (hz : ∀ w, (sizeOf e).run P w = .ok k w)
  (hx : ∀ i, i < 8 → ∀ w, (part e xs (i * k)).run P w = .ok (u i) w) (hy : ∀ i, i < 8 → ∀ w, (part e ys (i * k)).run P w = .ok (v i) w) (he : ∀ i, i < 8 → ∀ w, (Op.equalIn (d + 1) e (u i) (v i)).run P w = .ok (b i) w) (w : World) :
  (Op.equalIn (d + 1 + 1) t (.agg xs) (.agg ys)).run P w = .ok (b 0 && b 1 && b 2 && b 3 && b 4 && b 5 && b 6 && b 7) w := by
 have x0 := hx 0 (by omega); have x1 := hx 1 (by omega); have x2 := hx 2 (by omega); have x3 := hx 3 (by omega); have x4 := hx 4 (by omega); have x5 := hx 5 (by omega); have x6 := hx 6 (by omega); have x7 := hx 7 (by omega)
 have y0 := hy 0 (by omega); have y1 := hy 1 (by omega); have y2 := hy 2 (by omega); have y3 := hy 3 (by omega); have y4 := hy 4 (by omega); have y5 := hy 5 (by omega); have y6 := hy 6 (by omega); have y7 := hy 7 (by omega)
 have e0 := he 0 (by omega); have e1 := he 1 (by omega); have e2 := he 2 (by omega); have e3 := he 3 (by omega); have e4 := he 4 (by omega); have e5 := he 5 (by omega); have e6 := he 6 (by omega); have e7 := he 7 (by omega)
 rw [Nat.zero_mul] at x0 y0; rw [Nat.one_mul] at x1 y1
 rw [Op.equalIn]
 simp only [Sem.run_bind, run_underlying ht, Result.andThen_ok, hz, Std.Legacy.Range.forIn_eq_forIn_range', Std.Legacy.Range.size]
 simp [List.range', x0, x1, x2, x3, x4, x5, x6, x7, y0, y1, y2, y3, y4, y5, y6, y7, e0, e1, e2, e3, e4, e5, e6, e7]
 generalize b 0 = c0; generalize b 1 = c1; generalize b 2 = c2; generalize b 3 = c3; generalize b 4 = c4; generalize b 5 = c5; generalize b 6 = c6; generalize b 7 = c7
 cases c0 <;> simp
 cases c1 <;> simp
 cases c2 <;> simp
 cases c3 <;> simp
 cases c4 <;> simp
 cases c5 <;> simp
 cases c6 <;> simp
 cases c7 <;> simp
theorem Ci (x y : StV) : (decide (x.r0 = y.r0) && decide (x.r1 = y.r1) && decide (x.r2 = y.r2) && decide (x.r3 = y.r3) && decide (x.r4 = y.r4) && decide (x.r5 = y.r5) && decide (x.r6 = y.r6) && decide (x.r7 = y.r7)) = decide (x = y) := by
 rw [Bool.eq_iff_iff]
 cases x; cases y
 simp only [Bool.and_eq_true, decide_eq_true_eq, StV.mk.injEq, and_assoc]
structure StTy (P : Program) (t : TypeId) : Prop where
 ex : ∃ (tr ts : TypeId) (f0 : Field) (fs : Array Field), P.underlying t = some (.struct #[f0]) ∧ f0.name ≠ "_" ∧ f0.type = tr ∧ f0.offset = 0 ∧ P.stoodInHeld t = false ∧ P.underlying tr = some (.array 8 ts) ∧ (∀ w, (isAgg tr).run P w = .ok true w) ∧ (∀ w, (sizeOf tr).run P w = .ok 40 w) ∧
  P.underlying ts = some (.struct fs) ∧ WordFields P fs.toList [.bool, .bool, .int .u32, .int .u32, .int .u32] ∧ fs.toList.map (·.offset) = [0, 1, 2, 3, 4] ∧ P.stoodInHeld ts = false ∧ (∀ w, (isAgg ts).run P w = .ok true w) ∧ (∀ w, (sizeOf ts).run P w = .ok 5 w)
theorem yB {t : TypeId} (h : StTy P t) (x y : StV) (w : World) : (Op.equal t (.agg (cH.enc x).toArray) (.agg (cH.enc y).toArray)).run P w = .ok (decide (x = y)) w := by
 obtain ⟨tr, ts, f0, fs, ht, n0, y0, o0, hh, htr, hatr, hztr, hts, hwf, hof, hhs, hats, hzts⟩ := h.ex
 have hf : P.fieldsOf t = #[f0] := by simp [Program.fieldsOf, ht]
 subst y0
 unfold Op.equal
 show (Op.equalIn (9996 + 1 + 1 + 1 + 1) t _ _).run P w = _
 rw [run_equalIn_struct w _ t _ _ (by rw [hf]; exact ht) hh, hf]
 have hp : ∀ (z : StV) (i : Nat), i < 8 → ∀ w, (part ts (cH.enc z).toArray (i * 5)).run P w = .ok (.agg (bU.enc (z.getN i)).toArray) w := fun z i hi w =>
  uf hats hzts (by
   have := kV (s := z) (k := (i : Int)) ⟨by omega, by omega⟩ (o := i * 5) (by simp)
   rw [this]; rfl) w
 have hr := ov w (FieldsRS.cons (P := P) (d := 9996 + 1 + 1 + 1) (xs := (cH.enc x).toArray) (ys := (cH.enc y).toArray) (f := f0) (fs := []) n0
  (fun w => by rw [o0]; exact uf hatr hztr (vs := cH.enc x) rfl w) (fun w => by rw [o0]; exact uf hatr hztr (vs := cH.enc y) rfl w)
  (fun w => Cm (d := 9996 + 1) (fun i => .agg (bU.enc (x.getN i)).toArray) (fun i => .agg (bU.enc (y.getN i)).toArray) (fun i => decide (x.getN i = y.getN i)) htr hzts (hp x) (hp y) (fun i hi w => Cl hts hwf hof hhs _ _ w) w) .nil)
 refine hr.trans ?_
 rw [← Ci]
 simp only [List.all_cons, List.all_nil, id, Bool.and_true]
 rfl
end
section
variable {P : Program} {N : Nat} {F : Bg} {L : List Ent} {M : Fr} {dst : Option Tmp} {ty : TypeId} {pos : String} {after : Array Edge} {g : Option (Nat × Bool)}
theorem Fp {x y : Operand} {t u : TypeId} {p q : StV} (hx : opv M x = some (.agg (cH.enc p).toArray)) (hy : opv M y = some (.agg (cH.enc q).toArray)) (h : StTy P t) (hg : P.eqGuardType P.depth t = false) :
  QS P N F L M ⟨dst, .binOp .neq t x y u, ty, pos, after, g⟩ (.bool (decide (p ≠ q))) :=
 cE fun a w ha _ => by
  simp [execOp, ha.eval hx, ha.eval hy, mr w hg, binOp, yB h]
end
end Go.HL
namespace Go.Proofs.YtiajjbhcpeadfaaGreat
open Go Go.HL Go.RowKit
theorem yp (i : Ins) (w : World) (hI : InsOK i) :
  Calls Tryz.prog 224 #[.agg (aP.enc i).toArray] w (fun e w' => ∃ V', e = .returned V' ∧ Ext w w' ∧ je w w' 23 ar (dN i) V') := by
 refine enter Tryz.func224 rfl Tryz.ntmps224 rfl ?_
 refine af ?_
 refine dJ rfl rfl (fun b1 => ?_)
 refine zz0 (ab rfl) (ad (al (af (zz0 (bI rfl aU ax) ?_))))
 refine zz0 (aA rfl kg (fun w hw => kc i w hI)) ?_
 refine zz0 (cN rfl) (ad ?_)
 refine an rfl ?_ ?_ <;> intro h2 <;> try simp only [bs] at h2
 ·refine al (cj 23 ar ?_)
  refine ao (zz0 (ab rfl) (ad (az (ay ?_))))
  refine aT Tryz.results224 rfl (fun w' hw => ?_)
  exact ⟨_, rfl, hw.b0, by rw [show dN i = [] by unfold dN; rw [if_neg (by simp_all)]]; exact hw.new (.head _)⟩
 ·refine bA (al (cj 23 ar ?_))
  refine ao (zz0 (ab rfl) (ad ?_))
  refine db (ι := Value) (fun V1 => True) (fun _ => Bg.of w) (fun V1 => [rowE V1 23 ar (if (de i).2 = true then [(de i).1] else []), cellE b1 (aP.enc i) 36]) (fun V1 => [(3, V1)]) ?_ (fun V1 hi => ?_)
  ·skip
   refine af (zz0 (bI rfl aU ax) ?_)
   refine zz0 (aA rfl Tryz.call144 (fun w hw => qf i w)) ?_
   refine zz0 (aa rfl) (zz0 (aO rfl rfl) (zz0 (aO rfl rfl) (zz0 (ab rfl) (zz0 (ab rfl) (aI (zz0 (aa rfl) (ad ?_)))))))
   refine an rfl ?_ ?_ <;> intro h3 <;> try simp only [bs] at h3
   ·refine ao (zz0 (aa rfl) (zz0 (aa rfl) ?_))
    refine js (E := ar) (de i).1 rfl rfl ah ae cU (fun V4 => ?_)
    refine zz1 rfl rfl ah eX (fun V5 => ?_)
    refine zz0 (ab rfl) (ad (gC (l' := if (de i).2 = true then [(de i).1] else []) (by rw [if_pos (by assumption)]; rfl) ?_))
    refine cw _ (Front.c Front.nil) (bB 13 rfl) (o := trivial)
   ·refine bA (gC (l' := if (de i).2 = true then [(de i).1] else []) (by rw [if_neg (by simp_all)]) ?_)
    refine cw _ (Front.c Front.nil) (bB 8 rfl) (o := trivial)
  ·skip
   replace hi : True := hi
   change Tr _ _ [rowE V1 23 ar (if (de i).2 = true then [(de i).1] else []), cellE b1 (aP.enc i) 36] ([(3, V1)] ++ _) _
   have htl : (if (de i).2 = true then [(de i).1] else []).length ≤ 1 := by split <;> simp
   refine db (ι := Value) (fun V2 => True) (fun _ => Bg.of w) (fun V2 => [rowE V2 23 ar ((if (de i).2 = true then [(de i).1] else []) ++ (if lk i = true then [] else [ow i])), cellE b1 (aP.enc i) 36]) (fun V2 => [(3, V2)]) ?_ (fun V2 hi => ?_)
   ·skip
    refine af (zz0 (bI rfl aU ax) ?_)
    refine zz0 (aA rfl Tryz.call195 (fun w hw => zm i w)) ?_
    refine zz0 (cN rfl) (ad ?_)
    refine an rfl ?_ ?_ <;> intro h6 <;> try simp only [bs] at h6
    ·refine ao (zz0 (aa rfl) (zz0 (bI rfl aU ax) ?_))
     refine zz0 (aA rfl Tryz.call60 (fun w hw => yO i w hI)) ?_
     refine js (E := ar) (ow i) rfl rfl ah ae cU (fun V7 => ?_)
     refine zz1 rfl rfl ah eX (fun V8 => ?_)
     refine zz0 (ab rfl) (ad (gC (l' := (if (de i).2 = true then [(de i).1] else []) ++ (if lk i = true then [] else [ow i])) (by rw [if_neg (c := lk i = true) (by simp_all)]) ?_))
     refine cw _ (Front.c Front.nil) (bB 9 rfl) (o := trivial)
    ·refine bA (gC (l' := (if (de i).2 = true then [(de i).1] else []) ++ (if lk i = true then [] else [ow i])) (by rw [if_pos (c := lk i = true) (by simp_all), List.append_nil]) ?_)
     refine cw _ (Front.c Front.nil) (bB 3 rfl) (o := trivial)
   ·skip
    replace hi : True := hi
    change Tr _ _ [rowE V2 23 ar ((if (de i).2 = true then [(de i).1] else []) ++ (if lk i = true then [] else [ow i])), cellE b1 (aP.enc i) 36] ([(3, V2)] ++ _) _
    refine af (zz0 (aa rfl) (zz0 (ab rfl) (ad (az ?_))))
    refine aT Tryz.results224 rfl (fun w' hw => ?_)
    exact ⟨_, rfl, hw.b0, by rw [show dN i = _ by unfold dN; rw [if_pos (by simp_all)]]; exact hw.new (.head _)⟩
theorem zD (i : Ins) (a : UInt32) (b : Nat) (w : World) (hc : Cell (hp w) b 0 (.int .u32 a.toNat)) :
  Calls Tryz.prog 165 #[.agg (aP.enc i).toArray, .pointer (some ⟨b, 0, none⟩)] w (fun e w' => e = .returned (.bool (decide (i.addr = a))) ∧ Ext w w') := by
 have hc' : Cell (Bg.of w).blk b 0 (.int .u32 a.toNat) := hc
 refine enter Tryz.func165 rfl Tryz.ntmps165 rfl ?_
 refine af ?_
 refine dJ rfl rfl (fun b1 => ?_)
 refine zz0 (ab rfl) (aI (zz0 (zz2 (off := 0) (ft := 23) rfl aj rfl ae) ?_))
 refine zz0 (aJ rfl am) ?_
 refine zz0 (nw rfl (by assumption) am) ?_
 refine zz0 (eN rfl rfl) ?_
 refine zz0 (ab rfl) (ad (az ?_))
 refine aT Tryz.results165 rfl (fun w' hw => ?_)
 exact ⟨rfl, hw.b0⟩
theorem AU (l : List Ins) (st : List StV) (a : UInt32) (V VS : Value) (w : World) (hV : Sl (hp w) aP l V) (hS : Sl (hp w) cH st VS) :
  Calls Tryz.prog 109 #[V, VS, .int .u32 a.toNat] w (fun e w' => e = .returned (.tuple #[.agg (cH.enc (jg l st a).1).toArray, .bool (jg l st a).2]) ∧ Ext w w') := by
 have hV' : Sl (Bg.of w).blk aP l V := hV
 have hS' : Sl (Bg.of w).blk cH st VS := hS
 have hlS := hS'.len_le
 have hix := jP (fun i : Ins => decide (i.addr = a)) l 0
 refine enter Tryz.func109 rfl Tryz.ntmps109 rfl ?_
 refine af ?_
 refine dJ rfl rfl (fun b1 => ?_)
 refine dD cS rfl (fun b2 => ?_)
 refine zz0 (ab rfl) (aI (zz0 (aa rfl) (zz0 (fu rfl rfl) ?_)))
 refine zz0 (aA rfl Tryz.call152 (fun w hw => qc l V _ _ w (hw.slF hV') Tryz.call165 (fun i => decide (i.addr = a)) (fun x hx w'' h => zD x a _ w'' (cellE.cell (hw.ent _ (by repeat constructor)) h rfl)))) ?_
 refine zz0 (ab rfl) (ad (al (af (zz0 (aa rfl) (zz0 (bP rfl rfl) (zz0 (aa rfl) ?_))))))
 apply dB
 ·exact (rfl : _ = (5, 14, 19))
 ·exact rfl
 ·intro hF3; have hF3' := hF3
  try simp only [bs] at hF3'
  refine zz5 hF3 (aa rfl) (zz5 hF3 (aa rfl) (zz5 hF3 (gx rfl dR) ?_))
  refine zz5 hF3 (eE rfl rfl) (zz0 (aR rfl hF3 rfl) ?_)
  refine aB (ac ?_)
  exact aH (Sub.cons rfl (zz9 5 rfl))
 ·intro hT3
  refine zz8 hT3 (zz8 hT3 (zz8 hT3 (zz8 hT3 (zz0 (aQ rfl hT3 rfl) ?_))))
  refine aB (ac ?_)
  exact aH (Sub.cons rfl (zz9 5 rfl))
 refine ad ?_
 refine an rfl ?_ ?_ <;> intro h4 <;> try simp only [bs] at h4
 ·refine af (zz0 (bO (vs := []) rfl rfl (sZ)) ?_)
  refine aF cH rfl rfl aV ?_
  refine zz0 (ab rfl) (ad (az (ay ?_)))
  refine kS Tryz.results109 rfl rfl bX aV (fun w' hw => ?_)
  refine ⟨?_, hw.b0⟩
  unfold jg
  (repeat' split) <;> first | (exfalso; first | (simp_all; done) | grind) | rfl
 ·refine dh (zz0 (aa rfl) (zz0 (aa rfl) (zz0 (ll rfl rfl dR aV) ?_)))
  refine zz0 (mE rfl bX aV) ?_
  refine aF cH rfl rfl aV ?_
  refine zz0 (ab rfl) (ad (az ?_))
  refine kS Tryz.results109 rfl rfl bX aV (fun w' hw => ?_)
  refine ⟨?_, hw.b0⟩
  unfold jg
  (repeat' split) <;> first | (exfalso; first | (simp_all; done) | grind) | rfl
end Go.Proofs.YtiajjbhcpeadfaaGreat
namespace Go.Proofs.YtiajjbhcpeadfaaGreat
open Go Go.HL Go.RowKit
theorem wC (l : List Ins) (st : List StV) (gd : List Int) (bx bm : Nat) (VI VEd VG VB VV VM : Value) (k : Nat) (ee : Int × Bool) (w : World) (hx : CellsIn (hp w) bx [VI, .map (some bm), VEd, VG, VB, VV, VM]) (hI : Sl (hp w) aP l VI) (hG : Sl (hp w) bQ gd VG) (hB : Sl (hp w) cH st VB) (hIO : ∀ x ∈ l, InsOK x) (hgl : gd.length = l.length) (hsl : st.length = l.length) (hgd : ∀ j, j < gd.length → gd.getD j default < (l.length : Int)) (hk : k < l.length) :
  Calls Tryz.prog 226 #[.pointer (some ⟨bx, 0, none⟩), .int .i64 (k : Nat), .agg (eP.enc ee).toArray] w (fun e w' => e = .returned (.agg (cH.enc (jS l st gd k ee)).toArray) ∧ Ext w w') := by
 have hx' : CellsIn (Bg.of w).blk bx [VI, .map (some bm), VEd, VG, VB, VV, VM] := hx
 have hI' : Sl (Bg.of w).blk aP l VI := hI
 have hG' : Sl (Bg.of w).blk bQ gd VG := hG
 have hB' : Sl (Bg.of w).blk cH st VB := hB
 have hlI := hI'.len_le
 have hgk := hgd k (by omega)
 have hio := hIO _ (cZ hk)
 refine enter Tryz.func226 rfl Tryz.ntmps226 rfl ?_
 refine af ?_
 refine dJ rfl rfl (fun b1 => ?_)
 refine dD cS rfl (fun b2 => ?_)
 refine ad ?_
 refine db (ι := Nat × Nat) (fun ⟨p, q⟩ => True) (fun _ => Bg.of w) (fun ⟨p, q⟩ => [cellE q (cH.enc (st.getD k default)) 37, cellE p (aP.enc (l.getD k default)) 36, cellE b2 (cH.enc gy) 37, cellE b1 (eP.enc ee) 274]) (fun ⟨p, q⟩ => [(8, .pointer (some ⟨q, 0, none⟩)), (7, .pointer (some ⟨p, 0, none⟩))]) ?_ (fun i hi => ?_)
 ·skip
  refine d6 ([cellE b2 (cH.enc gy) 37, cellE b1 (eP.enc ee) 274]) 18 rfl aS ?_
  refine zz4 0 rfl (aa rfl) ?_
  refine zz4 1 rfl (bv rfl) ?_
  refine zz4 2 rfl (zz2 (off := 0) (ft := 50) rfl bC rfl du) ?_
  refine zz4 3 rfl (lJ rfl dH) ?_
  refine zz4 4 rfl (aa rfl) ?_
  refine zz4 5 rfl (gK rfl rfl aM ax) ?_
  refine zz4 6 rfl (mE rfl aU ax) ?_
  refine zz4 7 rfl (aa rfl) ?_
  refine zz4 8 rfl (bv rfl) ?_
  refine zz4 9 rfl (zz2 (off := 4) (ft := 177) rfl bC rfl eJ) ?_
  refine zz4 10 rfl (lJ rfl gW) ?_
  refine zz4 11 rfl (aa rfl) ?_
  refine zz4 12 rfl (gK rfl rfl dR aV) ?_
  refine zz4 13 rfl (mE rfl bX aV) ?_
  refine dx [14, 15] (fun iq hq => ?_)
  rcases List.mem_cons.1 hq with rfl | hq
  ·skip
   refine bJ rfl ?_
   refine dD bY rfl (fun b3 => ?_)
   refine cg ?_
   refine dx [15] (fun iq hq => ?_)
   obtain rfl := List.mem_singleton.1 hq
   refine bJ rfl ?_
   refine dD cS rfl (fun b4 => ?_)
   refine cg ?_
   refine dx [16] (fun iq hq => ?_)
   obtain rfl := List.mem_singleton.1 hq
   refine bJ rfl ?_
   refine aF aP rfl rfl ax ?_
   refine cg ?_
   refine dx [17] (fun iq hq => ?_)
   obtain rfl := List.mem_singleton.1 hq
   refine bJ rfl ?_
   refine aF cH rfl rfl aV ?_
   refine cg ?_
   refine iT ?_
   refine ac ?_
   refine cw (_, _) (Front.c (Front.c Front.nil)) (bB 16 rfl) (o := trivial)
  obtain rfl := List.mem_singleton.1 hq
  refine bJ rfl ?_
  refine dD cS rfl (fun b5 => ?_)
  refine cg ?_
  refine dx [14] (fun iq hq => ?_)
  obtain rfl := List.mem_singleton.1 hq
  refine bJ rfl ?_
  refine dD bY rfl (fun b6 => ?_)
  refine cg ?_
  refine dx [16] (fun iq hq => ?_)
  obtain rfl := List.mem_singleton.1 hq
  refine bJ rfl ?_
  refine aF aP rfl rfl ax ?_
  refine cg ?_
  refine dx [17] (fun iq hq => ?_)
  obtain rfl := List.mem_singleton.1 hq
  refine bJ rfl ?_
  refine aF cH rfl rfl aV ?_
  refine cg ?_
  refine iT ?_
  refine ac ?_
  refine cw (_, _) (Front.c (Front.c Front.nil)) (bB 16 rfl) (o := trivial)
 ·obtain ⟨p, q⟩ := i
  replace hi : True := hi
  change Tr _ _ [cellE q (cH.enc (st.getD k default)) 37, cellE p (aP.enc (l.getD k default)) 36, cellE b2 (cH.enc gy) 37, cellE b1 (eP.enc ee) 274] ([(8, .pointer (some ⟨q, 0, none⟩)), (7, .pointer (some ⟨p, 0, none⟩))] ++ _) _
  refine al (aD (af (zz0 (zz2 (off := 2) (ft := 3) rfl aj rfl aC) ?_)))
  refine zz0 (aJ rfl aN) ?_
  refine zz0 (bD rfl rfl) (zz0 (aa rfl) ?_)
  apply dB
  ·exact (rfl : _ = (4, 27, 31))
  ·exact rfl
  ·intro hF7; have hF7' := hF7
   try simp only [bs] at hF7'
   refine zz5 hF7 (zz2 (off := 2) (ft := 3) rfl aj rfl aC) ?_
   refine zz5 hF7 (aJ rfl aN) ?_
   refine zz5 hF7 (bD rfl rfl) (zz0 (aR rfl hF7 rfl) ?_)
   refine aB (ac ?_)
   exact aH (Sub.cons rfl (zz9 4 rfl))
  ·intro hT7
   refine zz8 hT7 (zz8 hT7 (zz8 hT7 (zz0 (aQ rfl hT7 rfl) ?_)))
   refine aB (ac ?_)
   exact aH (Sub.cons rfl (zz9 4 rfl))
  refine zz0 (ab rfl) (ad ?_)
  refine an rfl ?_ ?_ <;> intro h8 <;> try simp only [bs] at h8
  ·refine af (zz0 (aA rfl Tryz.call162 (fun w hw => oI w)) ?_)
   refine aF cH rfl rfl aV ?_
   refine ad (az (bh (ay ?_)))
   refine eT mS rfl bX aV (fun w' hw => ?_)
   refine ⟨?_, hw.b0⟩
   unfold jS
   (repeat' split) <;> first | (exfalso; first | (simp_all; done) | grind) | rfl
  ·refine af (zz0 (zz2 (off := 2) (ft := 3) rfl aj rfl aC) ?_)
   refine zz0 (aJ rfl aN) ?_
   refine zz0 (bD rfl rfl) (zz0 (aa rfl) ?_)
   apply cm
   ·exact (rfl : _ = (9, 37, 46))
   ·exact rfl
   ·intro hT9; have hT9' := hT9
    try simp only [bs] at hT9'
    refine zz5 hT9 (aa rfl) (zz5 hT9 (bv rfl) ?_)
    refine zz5 hT9 (zz2 (off := 3) (ft := 224) rfl bC rfl eI) ?_
    refine zz5 hT9 (lJ rfl gm) ?_
    refine zz5 hT9 (aa rfl) (zz5 hT9 (gK rfl rfl cQ aC) ?_)
    refine zz5 hT9 (jx rfl aN) ?_
    refine zz5 hT9 (eE rfl rfl) (zz0 (aQ rfl hT9 rfl) ?_)
    refine aB (ac ?_)
    exact aH (Sub.cons rfl (zz9 9 rfl))
   ·intro hF9
    refine zz8 hF9 (zz8 hF9 (zz8 hF9 (zz8 hF9 (zz8 hF9 (zz8 hF9 (zz8 hF9 (zz8 hF9 (zz0 (aR rfl hF9 rfl) ?_))))))))
    refine aB (ac ?_)
    exact aH (Sub.cons rfl (zz9 9 rfl))
   refine zz0 (ab rfl) (ad ?_)
   refine an rfl ?_ ?_ <;> intro h10 <;> try simp only [bs] at h10
   ·refine al (fG 0 19 aS ?_)
    refine bG ?_
    refine aw (zz2 (off := 5) (ft := 3) rfl aj rfl aC) ?_
    refine aw (aJ rfl aN) ?_
    refine aw (aa rfl) (aw (bv rfl) ?_)
    refine aw (zz2 (off := 0) (ft := 50) rfl bC rfl du) ?_
    refine aw (lJ rfl dH) ?_
    refine aw (aa rfl) (aw (bv rfl) ?_)
    refine aw (zz2 (off := 3) (ft := 224) rfl bC rfl eI) ?_
    refine aw (lJ rfl gm) ?_
    refine aw (aa rfl) (aw (gK rfl rfl cQ aC) ?_)
    refine aw (jx rfl aN) ?_
    refine aw (ll rfl rfl aM ax) ?_
    refine aw (mE rfl aU ax) ?_
    refine aw (bI rfl bX aV) ?_
    refine aw (zz2 (off := 1) (ft := 4) rfl ig rfl bW) ?_
    refine aw (aJ rfl cB) ?_
    refine aw (aA rfl Tryz.call269 (fun w hw => Am (l.getD k default).cc (l.getD (gd.getD k default).toNat default) (st.getD k default) ee.2 w (hIO _ (cZ (by omega))))) ?_
    refine bH ?_
    refine aF cH rfl rfl aV ?_
    refine ad (az (bh (ay ?_)))
    refine eT mS rfl bX aV (fun w' hw => ?_)
    refine ⟨?_, hw.b0⟩
    unfold jS
    (repeat' split) <;> first | (exfalso; first | (simp_all; done) | grind) | rfl
   ·refine cd (aX (ac (af (zz0 (bI rfl aU ax) ?_))))
    refine zz0 (bI rfl bX aV) ?_
    refine zz0 (aA rfl Tryz.call270 (fun w hw => wQ (l.getD k default) (st.getD k default) w hio)) ?_
    refine aF cH rfl rfl aV ?_
    refine ad (az ?_)
    refine eT mS rfl bX aV (fun w' hw => ?_)
    refine ⟨?_, hw.b0⟩
    unfold jS
    (repeat' split) <;> first | (exfalso; first | (simp_all; done) | grind) | rfl
end Go.Proofs.YtiajjbhcpeadfaaGreat
namespace Go.HL
open Go
def cD : Enc Bool := ⟨1, fun x => [.bool x], fun _ => rfl, fun x v h => by simp at h; subst h; rfl⟩
structure RV (α : Type) where
 data : List α
 dp : Option Addr
 dc : Nat
instance {α : Type} : Inhabited (RV α) := ⟨⟨[], none, 0⟩⟩
def dE {α : Type} : Enc (RV α) := ⟨1, fun t => [.slice t.dp t.data.length t.dc], fun _ => rfl, fun x v h => by simp at h; subst h; rfl⟩
abbrev rvE {α : Type} (T : TypeId) (E : Enc α) (r : RV α) : Ent := rowE (.slice r.dp r.data.length r.dc) T E r.data
def RvIn {α : Type} (E : Enc α) (h : Hp) (l : List (RV α)) : Prop := ∀ t ∈ l, Sl h E t.data (.slice t.dp t.data.length t.dc)
theorem RvIn.mono {α : Type} {E : Enc α} {h h' : Hp} {l : List (RV α)} (d : RvIn E h l) (hh : Hp.le h h') : RvIn E h' l := fun s hs => (d s hs).mono hh
abbrev EdV := RV (Int × Bool)
abbrev gJ : Enc EdV := dE
abbrev Ii (h : Hp) (l : List EdV) : Prop := RvIn eP h l
structure VSt where
 st : List StV
 vs : List Int
 mb : List Bool
def oP (l : List Ins) (gd : List Int) (k : Nat) (s : VSt) (e : Int × Bool) : StV :=
 if 4 ≤ s.vs.getD e.1.toNat default then va (s.st.getD e.1.toNat default) (iS (s.st.getD e.1.toNat default) (jS l s.st gd k e) 8) 8
 else iS (s.st.getD e.1.toNat default) (jS l s.st gd k e) 8
def fb (l : List Ins) (gd : List Int) (k : Nat) (s : VSt) (e : Int × Bool) : VSt :=
 if oP l gd k s e = s.st.getD e.1.toNat default then s else ⟨s.st.set e.1.toNat (oP l gd k s e), s.vs, s.mb.set e.1.toNat true⟩
def ia (k : Nat) (s : VSt) : VSt := ⟨s.st, s.vs.set k (s.vs.getD k default + 1), s.mb.set k false⟩
def ju (l : List Ins) (gd : List Int) (es : List (Int × Bool)) (k : Nat) (s : VSt) : VSt := es.foldl (fb l gd k) (ia k s)
theorem Ae (l : List Ins) (gd : List Int) (k : Nat) (s : VSt) (e : Int × Bool) : (fb l gd k s e).st.length = s.st.length ∧ (fb l gd k s e).vs = s.vs ∧ (fb l gd k s e).mb.length = s.mb.length := by
 unfold fb
 split
 ·exact ⟨rfl, rfl, rfl⟩
 ·exact ⟨List.length_set, rfl, List.length_set⟩
theorem nI (l : List Ins) (gd : List Int) (k : Nat) : ∀ (es : List (Int × Bool)) (s : VSt), (es.foldl (fb l gd k) s).st.length = s.st.length ∧ (es.foldl (fb l gd k) s).vs = s.vs ∧ (es.foldl (fb l gd k) s).mb.length = s.mb.length
 | [], s => ⟨rfl, rfl, rfl⟩
 | e :: t, s => by
  have h1 := nI l gd k t (fb l gd k s e)
  have h2 := Ae l gd k s e
  exact ⟨h1.1.trans h2.1, h1.2.1.trans h2.2.1, h1.2.2.trans h2.2.2⟩
theorem pE {α β : Type} [Inhabited β] (f : α → β → α) (l : List β) (s : α) {k : Nat} (h : k < l.length) : (l.take (k + 1)).foldl f s = f ((l.take k).foldl f s) (l.getD k default) := by
 rw [dn h, List.foldl_append]; rfl
theorem Ex {l : List Ins} {gd : List Int} {k : Nat} {s : VSt} {es : List (Int × Bool)} {j : Nat} (h : j < es.length) {S : VSt} (hS : S = (es.take j).foldl (fb l gd k) s) (hn : oP l gd k S (es.getD j default) ≠ S.st.getD (es.getD j default).1.toNat default) :
  (es.take (j + 1)).foldl (fb l gd k) s = ⟨S.st.set (es.getD j default).1.toNat (oP l gd k S (es.getD j default)), S.vs, S.mb.set (es.getD j default).1.toNat true⟩ := by
 rw [pE _ _ _ h, ← hS]; unfold fb; rw [if_neg hn]
theorem Gb {l : List Ins} {gd : List Int} {k : Nat} {s : VSt} {es : List (Int × Bool)} {j : Nat} (h : j < es.length) {S : VSt} (hS : S = (es.take j).foldl (fb l gd k) s) (hn : oP l gd k S (es.getD j default) = S.st.getD (es.getD j default).1.toNat default) :
  (es.take (j + 1)).foldl (fb l gd k) s = S := by
 rw [pE _ _ _ h, ← hS]; unfold fb; rw [if_pos hn]
end Go.HL
namespace Go.Proofs.YtiajjbhcpeadfaaGreat
open Go Go.HL Go.RowKit
theorem Ie : StTy Tryz.prog 37 :=
 ⟨⟨26, 25, _, _, cn, by decide, rfl, rfl, by kernel_rfl, co, Tryz.isAgg26, dj, au, pp _ au, rfl, qE, aK, ak⟩⟩
theorem H7 : Tryz.prog.eqGuardType Tryz.prog.depth 37 = false := by kernel_rfl
theorem Cb (l : List Ins) (gd : List Int) (eds : List EdV) (s : VSt) (bx bm k : Nat) (VI VEd VG VB VV VM : Value) (w : World) (ho : OwnAt w [rowE VB 37 cH s.st, rowE VV 3 bQ s.vs, rowE VM 4 cD s.mb]) (hx : CellsIn (Bg.lessB w (c9 [rowE VB 37 cH s.st, rowE VV 3 bQ s.vs, rowE VM 4 cD s.mb]) 0).blk bx [VI, .map (some bm), VEd, VG, VB, VV, VM]) (hI : Sl (Bg.lessB w (c9 [rowE VB 37 cH s.st, rowE VV 3 bQ s.vs, rowE VM 4 cD s.mb]) 0).blk aP l VI) (hG : Sl (Bg.lessB w (c9 [rowE VB 37 cH s.st, rowE VV 3 bQ s.vs, rowE VM 4 cD s.mb]) 0).blk bQ gd VG) (hE : Sl (Bg.lessB w (c9 [rowE VB 37 cH s.st, rowE VV 3 bQ s.vs, rowE VM 4 cD s.mb]) 0).blk gJ eds VEd) (hEI : Ii (Bg.lessB w (c9 [rowE VB 37 cH s.st, rowE VV 3 bQ s.vs, rowE VM 4 cD s.mb]) 0).blk eds) (hIO : ∀ x ∈ l, InsOK x) (hgl : gd.length = l.length) (hsl : s.st.length = l.length) (hvl : s.vs.length = l.length) (hml : s.mb.length = l.length) (hel : eds.length = l.length) (hgd : ∀ j, j < gd.length → gd.getD j default < (l.length : Int)) (heb : ∀ e ∈ (eds.getD k default).data, 0 ≤ e.1 ∧ e.1 < (l.length : Int)) (hvb : ∀ v ∈ s.vs, 0 ≤ v ∧ v ≤ 1000000) (hk : k < l.length) :
  Calls Tryz.prog 164 #[.pointer (some ⟨bx, 0, none⟩), .int .i64 (k : Nat)] w (fun e w' => ∃ _ : Unit, e = .returned (.tuple #[]) ∧ Upd 0 w w' (c9 [rowE VB 37 cH s.st, rowE VV 3 bQ s.vs, rowE VM 4 cD s.mb]) [rowE VB 37 cH (ju l gd (eds.getD k default).data k s).st, rowE VV 3 bQ (ju l gd (eds.getD k default).data k s).vs, rowE VM 4 cD (ju l gd (eds.getD k default).data k s).mb] ∧ True) := by
 have hvk := hvb _ (cZ (k := k) (by omega))
 have hEk := hEI _ (cZ (k := k) (by omega))
 have hlI := hI.len_le
 have hEl := hEk.len_le
 refine qo (L := [rowE VB 37 cH s.st, rowE VV 3 bQ s.vs, rowE VM 4 cD s.mb]) ho rfl (Nat.zero_le _) Tryz.func164 rfl Tryz.ntmps164 rfl ?_
 refine af (zz0 (aa rfl) (zz0 (bv rfl) ?_))
 refine zz0 (zz2 (off := 6) (ft := 225) rfl bC rfl lz) ?_
 refine zz0 (lJ rfl mz) ?_
 refine zz0 (aa rfl) (zz0 (zz7 rfl rfl eF bW) ?_)
 refine gh (l := s.mb) (i := k) (false) rfl rfl bW ?_
 have hls1 : (List.set s.mb (k) (false)).length = (s.mb).length := List.length_set
 refine aI (zz0 (aa rfl) (zz0 (bv rfl) ?_))
 refine zz0 (zz2 (off := 5) (ft := 224) rfl bC rfl eI) ?_
 refine zz0 (lJ rfl gm) ?_
 refine zz0 (aa rfl) (zz0 (zz7 rfl rfl cQ aC) ?_)
 refine zz0 (dY rfl aN) ?_
 refine zz0 (cp rfl rfl) ?_
 refine zz0 (zz7 rfl rfl cQ aC) ?_
 refine gh (l := s.vs) (i := k) ((s.vs.getD k default + 1)) rfl rfl aC ?_
 have hls2 : (List.set s.vs (k) ((s.vs.getD k default + 1))).length = (s.vs).length := List.length_set
 refine aI (zz0 (aa rfl) (zz0 (bv rfl) ?_))
 refine zz0 (zz2 (off := 2) (ft := 226) rfl bC rfl j5) ?_
 refine zz0 (lJ rfl Tryz.isAgg226) ?_
 refine zz0 (aa rfl) (zz0 (gK rfl rfl ii jj) ?_)
 refine zz0 (jx rfl Tryz.isAgg272) ?_
 refine zz0 (gx rfl gp) ?_
 refine zz0 (aa rfl) (ad (aD ?_))
 change Tr _ _ [rowE VB 37 cH (((eds.getD k default).data.take 0).foldl (fb l gd k) (ia k s)).st, rowE VV 3 bQ (((eds.getD k default).data.take 0).foldl (fb l gd k) (ia k s)).vs, rowE VM 4 cD (((eds.getD k default).data.take 0).foldl (fb l gd k) (ia k s)).mb] _ _
 refine bK (ι := Nat) (fun j => j ≤ (eds.getD k default).data.length) (fun _ => (Bg.lessB w (c9 [rowE VB 37 cH s.st, rowE VV 3 bQ s.vs, rowE VM 4 cD s.mb]) 0)) (fun j => [rowE VB 37 cH (((eds.getD k default).data.take j).foldl (fb l gd k) (ia k s)).st, rowE VV 3 bQ (((eds.getD k default).data.take j).foldl (fb l gd k) (ia k s)).vs, rowE VM 4 cD (((eds.getD k default).data.take j).foldl (fb l gd k) (ia k s)).mb]) (fun j => [(32, .int .i64 (j : Nat))]) (fun j => (eds.getD k default).data.length - j) 0 (Nat.zero_le _) (Front.c Front.nil) (by repeat' constructor) rfl (fun j hi m hm => ?_)
 replace hi : j ≤ (eds.getD k default).data.length := hi
 replace hm : m = (eds.getD k default).data.length - j := hm
 change Tr _ _ [rowE VB 37 cH (((eds.getD k default).data.take j).foldl (fb l gd k) (ia k s)).st, rowE VV 3 bQ (((eds.getD k default).data.take j).foldl (fb l gd k) (ia k s)).vs, rowE VM 4 cD (((eds.getD k default).data.take j).foldl (fb l gd k) (ia k s)).mb] ([(32, .int .i64 (j : Nat))] ++ _) _
 obtain ⟨S, hS⟩ : ∃ S, S = (((eds.getD k default).data.take j).foldl (fb l gd k) (ia k s)) := ⟨_, rfl⟩
 rw [← hS]
 have hvf := nI l gd k ((eds.getD k default).data.take j) (ia k s)
 rw [← hS] at hvf
 have hSt : S.st.length = l.length := hvf.1.trans hsl
 have hSm : S.mb.length = l.length := hvf.2.2.trans (List.length_set.trans hml)
 have hSv : S.vs.length = l.length := (congrArg List.length hvf.2.1).trans (List.length_set.trans hvl)
 refine af (zz0 (bP rfl rfl) (ad (al ?_)))
 refine an rfl ?_ ?_ <;> intro h3 <;> try simp only [bs] at h3
 ·refine bA (al (aD (al ?_)))
  have hej := heb _ (cZ (k := j) (by omega))
  refine ao (zz0 (gK rfl rfl gp ji) ?_)
  refine zz0 (mE rfl Tryz.isAgg274 ji) ?_
  refine dD k6 rfl (fun b4 => ?_)
  refine aF eP rfl rfl ji ?_
  refine ad ?_
  refine db (ι := Nat) (fun bo => True) (fun _ => (Bg.lessB w (c9 [rowE VB 37 cH s.st, rowE VV 3 bQ s.vs, rowE VM 4 cD s.mb]) 0)) (fun bo => [cellE bo (cH.enc (S.st.getD ((eds.getD k default).data.getD j default).1.toNat default)) 37, cellE b4 (eP.enc ((eds.getD k default).data.getD j default)) 274, rowE VB 37 cH S.st, rowE VV 3 bQ S.vs, rowE VM 4 cD S.mb]) (fun bo => [(6, .pointer (some ⟨bo, 0, none⟩))]) ?_ (fun bo hi => ?_)
  ·skip
   refine d6 ([cellE b4 (eP.enc ((eds.getD k default).data.getD j default)) 274, rowE VB 37 cH S.st, rowE VV 3 bQ S.vs, rowE VM 4 cD S.mb]) 10 rfl aS ?_
   refine zz4 0 rfl (aa rfl) ?_
   refine zz4 1 rfl (bv rfl) ?_
   refine zz4 2 rfl (zz2 (off := 4) (ft := 177) rfl bC rfl eJ) ?_
   refine zz4 3 rfl (lJ rfl gW) ?_
   refine zz4 4 rfl (zz2 (off := 0) (ft := 3) rfl ig rfl aC) ?_
   refine zz4 5 rfl (aJ rfl aN) ?_
   refine zz4 6 rfl (jt rfl rfl dR aV) ?_
   refine zz4 7 rfl (mF rfl bX aV) ?_
   refine dx [8] (fun iq hq => ?_)
   obtain rfl := List.mem_singleton.1 hq
   refine bJ rfl ?_
   refine dD cS rfl (fun b5 => ?_)
   refine cg ?_
   refine dx [9] (fun iq hq => ?_)
   obtain rfl := List.mem_singleton.1 hq
   refine bJ rfl ?_
   refine aF cH rfl rfl aV ?_
   refine cg ?_
   refine iT ?_
   refine ac ?_
   refine cw _ (Front.c Front.nil) (bB 9 rfl) (o := trivial)
  ·skip
   replace hi : True := hi
   change Tr _ _ [cellE bo (cH.enc (S.st.getD ((eds.getD k default).data.getD j default).1.toNat default)) 37, cellE b4 (eP.enc ((eds.getD k default).data.getD j default)) 274, rowE VB 37 cH S.st, rowE VV 3 bQ S.vs, rowE VM 4 cD S.mb] ([(6, .pointer (some ⟨bo, 0, none⟩))] ++ _) _
   refine db (ι := Nat) (fun bn => True) (fun _ => (Bg.lessB w (c9 [rowE VB 37 cH s.st, rowE VV 3 bQ s.vs, rowE VM 4 cD s.mb]) 0)) (fun bn => [cellE bn (cH.enc (iS (S.st.getD ((eds.getD k default).data.getD j default).1.toNat default) (jS l S.st gd k ((eds.getD k default).data.getD j default)) 8)) 37, cellE bo (cH.enc (S.st.getD ((eds.getD k default).data.getD j default).1.toNat default)) 37, cellE b4 (eP.enc ((eds.getD k default).data.getD j default)) 274, rowE VB 37 cH S.st, rowE VV 3 bQ S.vs, rowE VM 4 cD S.mb]) (fun bn => [(7, .pointer (some ⟨bn, 0, none⟩))]) ?_ (fun bn hi => ?_)
   ·skip
    refine d6 ([cellE bo (cH.enc (S.st.getD ((eds.getD k default).data.getD j default).1.toNat default)) 37, cellE b4 (eP.enc ((eds.getD k default).data.getD j default)) 274, rowE VB 37 cH S.st, rowE VV 3 bQ S.vs, rowE VM 4 cD S.mb]) 8 rfl aS ?_
    refine zz4 0 rfl (bI rfl bX aV) ?_
    refine zz4 1 rfl (aa rfl) ?_
    refine zz4 2 rfl (aa rfl) ?_
    refine zz4 3 rfl (bI rfl Tryz.isAgg274 ji) ?_
    refine dx [4, 6] (fun iq hq => ?_)
    rcases List.mem_cons.1 hq with rfl | hq
    ·skip
     refine bJ rfl ?_
     refine zz0 (aA rfl Tryz.call226 (fun w hw => wC l _ gd bx bm VI VEd VG VB VV VM k _ w (hx.mono hw.bg) (hw.slF hI) (hw.slF hG) (hw.row (by repeat constructor)) hIO hgl (by omega) hgd hk)) ?_
     refine cg ?_
     refine dx [5, 6] (fun iq hq => ?_)
     rcases List.mem_cons.1 hq with rfl | hq
     ·skip
      refine bJ rfl ?_
      refine zz0 (aA rfl og (fun w hw => nU _ _ w)) ?_
      refine cg ?_
      refine dx [6] (fun iq hq => ?_)
      obtain rfl := List.mem_singleton.1 hq
      refine bJ rfl ?_
      refine dD cS rfl (fun b6 => ?_)
      refine cg ?_
      refine dx [7] (fun iq hq => ?_)
      obtain rfl := List.mem_singleton.1 hq
      refine bJ rfl ?_
      refine aF cH rfl rfl aV ?_
      refine cg ?_
      refine iT ?_
      refine ac ?_
      refine cw _ (Front.c Front.nil) (bB 7 rfl) (o := trivial)
     obtain rfl := List.mem_singleton.1 hq
     refine bJ rfl ?_
     refine dD cS rfl (fun b7 => ?_)
     refine cg ?_
     refine dx [5] (fun iq hq => ?_)
     obtain rfl := List.mem_singleton.1 hq
     refine bJ rfl ?_
     refine zz0 (aA rfl og (fun w hw => nU _ _ w)) ?_
     refine cg ?_
     refine dx [7] (fun iq hq => ?_)
     obtain rfl := List.mem_singleton.1 hq
     refine bJ rfl ?_
     refine aF cH rfl rfl aV ?_
     refine cg ?_
     refine iT ?_
     refine ac ?_
     refine cw _ (Front.c Front.nil) (bB 7 rfl) (o := trivial)
    obtain rfl := List.mem_singleton.1 hq
    refine bJ rfl ?_
    refine dD cS rfl (fun b8 => ?_)
    refine cg ?_
    refine dx [4] (fun iq hq => ?_)
    obtain rfl := List.mem_singleton.1 hq
    refine bJ rfl ?_
    refine zz0 (aA rfl Tryz.call226 (fun w hw => wC l _ gd bx bm VI VEd VG VB VV VM k _ w (hx.mono hw.bg) (hw.slF hI) (hw.slF hG) (hw.row (by repeat constructor)) hIO hgl (by omega) hgd hk)) ?_
    refine cg ?_
    refine dx [5] (fun iq hq => ?_)
    obtain rfl := List.mem_singleton.1 hq
    refine bJ rfl ?_
    refine zz0 (aA rfl og (fun w hw => nU _ _ w)) ?_
    refine cg ?_
    refine dx [7] (fun iq hq => ?_)
    obtain rfl := List.mem_singleton.1 hq
    refine bJ rfl ?_
    refine aF cH rfl rfl aV ?_
    refine cg ?_
    refine iT ?_
    refine ac ?_
    refine cw _ (Front.c Front.nil) (bB 7 rfl) (o := trivial)
   ·skip
    replace hi : True := hi
    change Tr _ _ [cellE bn (cH.enc (iS (S.st.getD ((eds.getD k default).data.getD j default).1.toNat default) (jS l S.st gd k ((eds.getD k default).data.getD j default)) 8)) 37, cellE bo (cH.enc (S.st.getD ((eds.getD k default).data.getD j default).1.toNat default)) 37, cellE b4 (eP.enc ((eds.getD k default).data.getD j default)) 274, rowE VB 37 cH S.st, rowE VV 3 bQ S.vs, rowE VM 4 cD S.mb] ([(7, .pointer (some ⟨bn, 0, none⟩))] ++ _) _
    refine db (ι := StV) (fun x1 => x1 = oP l gd k S ((eds.getD k default).data.getD j default)) (fun _ => (Bg.lessB w (c9 [rowE VB 37 cH s.st, rowE VV 3 bQ s.vs, rowE VM 4 cD s.mb]) 0)) (fun x1 => [cellE bn (cH.enc x1) 37, cellE bo (cH.enc (S.st.getD ((eds.getD k default).data.getD j default).1.toNat default)) 37, cellE b4 (eP.enc ((eds.getD k default).data.getD j default)) 274, rowE VB 37 cH S.st, rowE VV 3 bQ S.vs, rowE VM 4 cD S.mb]) (fun x1 => []) ?_ (fun x1 hi => ?_)
    ·skip
     refine al (gQ aS ?_)
     refine aw (aa rfl) (aw (bv rfl) ?_)
     refine aw (zz2 (off := 5) (ft := 224) rfl bC rfl eI) ?_
     refine aw (lJ rfl gm) ?_
     refine aw (zz2 (off := 0) (ft := 3) rfl ig rfl aC) ?_
     refine aw (aJ rfl aN) ?_
     refine aw (jt rfl rfl cQ aC) ?_
     refine aw (dY rfl aN) ?_
     refine aw (eE rfl rfl) (bH ?_)
     refine ac ?_
     refine an rfl ?_ ?_ <;> intro h9 <;> try simp only [bs] at h9
     ·refine af (zz0 (aa rfl) (ad (aD ?_)))
      refine bK (ι := Nat) (fun r => r ≤ 8) (fun _ => (Bg.lessB w (c9 [rowE VB 37 cH s.st, rowE VV 3 bQ s.vs, rowE VM 4 cD s.mb]) 0)) (fun r => [cellE bn (cH.enc (va (S.st.getD ((eds.getD k default).data.getD j default).1.toNat default) (iS (S.st.getD ((eds.getD k default).data.getD j default).1.toNat default) (jS l S.st gd k ((eds.getD k default).data.getD j default)) 8) r)) 37, cellE bo (cH.enc (S.st.getD ((eds.getD k default).data.getD j default).1.toNat default)) 37, cellE b4 (eP.enc ((eds.getD k default).data.getD j default)) 274, rowE VB 37 cH S.st, rowE VV 3 bQ S.vs, rowE VM 4 cD S.mb]) (fun r => [(59, .int .i64 (r : Nat))]) (fun r => 8 - r) 0 (Nat.zero_le _) (Front.c Front.nil) (by repeat' constructor) rfl (fun r hi m hm => ?_)
      replace hi : r ≤ 8 := hi
      replace hm : m = 8 - r := hm
      change Tr _ _ [cellE bn (cH.enc (va (S.st.getD ((eds.getD k default).data.getD j default).1.toNat default) (iS (S.st.getD ((eds.getD k default).data.getD j default).1.toNat default) (jS l S.st gd k ((eds.getD k default).data.getD j default)) 8) r)) 37, cellE bo (cH.enc (S.st.getD ((eds.getD k default).data.getD j default).1.toNat default)) 37, cellE b4 (eP.enc ((eds.getD k default).data.getD j default)) 274, rowE VB 37 cH S.st, rowE VV 3 bQ S.vs, rowE VM 4 cD S.mb] ([(59, .int .i64 (r : Nat))] ++ _) _
      have hgr := yl (S.st.getD ((eds.getD k default).data.getD j default).1.toNat default) (iS (S.st.getD ((eds.getD k default).data.getD j default).1.toNat default) (jS l S.st gd k ((eds.getD k default).data.getD j default)) 8) r hi r (Nat.le_refl _)
      refine af (zz0 (bP rfl rfl) (ad (al ?_)))
      refine an rfl ?_ ?_ <;> intro h10 <;> try simp only [bs] at h10
      ·refine bA (al (aD (af (zz0 (aa rfl) (zz0 (ab rfl) (ad (fG 0 12 aS ?_)))))))
       refine bG ?_
       refine aw (aa rfl) (aw (aa rfl) (aw (zz2 (off := 0) (ft := 26) rfl cn rfl dj) ?_))
       refine aw (dI rfl rfl co ak (by omega)) ?_
       refine aw (gw (vs := bU.enc ((S.st.getD ((eds.getD k default).data.getD j default).1.toNat default).get (r : Int))) rfl (by repeat constructor) aK ak (kV ⟨by omega, by omega⟩ (by simp)) rfl) ?_
       refine aw (aa rfl) (aw (zz2 (off := 0) (ft := 26) rfl cn rfl dj) ?_)
       refine aw (dI rfl rfl co ak (by omega)) ?_
       refine aw (gw (vs := bU.enc ((va (S.st.getD ((eds.getD k default).data.getD j default).1.toNat default) (iS (S.st.getD ((eds.getD k default).data.getD j default).1.toNat default) (jS l S.st gd k ((eds.getD k default).data.getD j default)) 8) r).get (r : Int))) rfl (by repeat constructor) aK ak (kV ⟨by omega, by omega⟩ (by simp)) rfl) ?_
       refine aw (aA rfl Tryz.call227 (fun w hw => Dm _ _ w)) ?_
       refine aw (zz2 (off := 0) (ft := 26) rfl cn rfl dj) ?_
       refine aw (dI rfl rfl co ak (by omega)) ?_
       refine bH ?_
       refine f7 rfl rfl ak (by repeat constructor) ((kU (s := va (S.st.getD ((eds.getD k default).data.getD j default).1.toNat default) (iS (S.st.getD ((eds.getD k default).data.getD j default).1.toNat default) (jS l S.st gd k ((eds.getD k default).data.getD j default)) 8) r) (k := (r : Int)) ⟨by omega, by omega⟩ (by simp) (lL ((S.st.getD ((eds.getD k default).data.getD j default).1.toNat default).get (r : Int)) ((va (S.st.getD ((eds.getD k default).data.getD j default).1.toNat default) (iS (S.st.getD ((eds.getD k default).data.getD j default).1.toNat default) (jS l S.st gd k ((eds.getD k default).data.getD j default)) 8) r).get (r : Int)))).trans (congrArg cH.enc (show _ = va (S.st.getD ((eds.getD k default).data.getD j default).1.toNat default) (iS (S.st.getD ((eds.getD k default).data.getD j default).1.toNat default) (jS l S.st gd k ((eds.getD k default).data.getD j default)) 8) (r + 1) by rw [hgr (by omega)]; rfl))) (by rfl) (kW (k := (r : Int)) ⟨by omega, by omega⟩ (by simp)) (by first | exact Enc.one bU _ | exact List.all_eq_true.1 rfl) rfl ?_
       refine aB (aX (ac (ao (zz0 (cp rfl rfl) ?_))))
       refine zz0 (aa rfl) (ad ?_)
       refine cC (r + 1) (Front.c Front.nil) (bB 18 rfl) (o := (by show r + 1 ≤ _; omega))
      ·refine bF (aG (aG (bj (ac ?_))))
       refine cw _ Front.nil (bB 12 rfl) (o := (by show _ = _; unfold oP; rw [if_pos (by assumption), show r = 8 by omega]))
     ·refine bA ?_
      refine cw _ Front.nil (bB 9 rfl) (o := (by show _ = _; unfold oP; rw [if_neg (by assumption)]))
    ·skip
     replace hi : x1 = oP l gd k S ((eds.getD k default).data.getD j default) := hi
     change Tr _ _ [cellE bn (cH.enc x1) 37, cellE bo (cH.enc (S.st.getD ((eds.getD k default).data.getD j default).1.toNat default)) 37, cellE b4 (eP.enc ((eds.getD k default).data.getD j default)) 274, rowE VB 37 cH S.st, rowE VV 3 bQ S.vs, rowE VM 4 cD S.mb] ([] ++ _) _
     have hx1 := hi
     refine af (zz0 (bI rfl bX aV) ?_)
     refine zz0 (bI rfl bX aV) ?_
     refine zz0 (Fp rfl rfl Ie H7) ?_
     refine ad ?_
     refine an rfl ?_ ?_ <;> intro h11 <;> try simp only [bs] at h11
     ·refine al (fG 0 8 aS ?_)
      refine bG ?_
      refine aw (aa rfl) (aw (bv rfl) ?_)
      refine aw (zz2 (off := 4) (ft := 177) rfl bC rfl eJ) ?_
      refine aw (lJ rfl gW) ?_
      refine aw (zz2 (off := 0) (ft := 3) rfl ig rfl aC) ?_
      refine aw (aJ rfl aN) ?_
      refine aw (bI rfl bX aV) ?_
      refine aw (jt rfl rfl dR aV) ?_
      refine bH ?_
      refine gh (l := S.st) (i := ((eds.getD k default).data.getD j default).1.toNat) (x1) rfl rfl aV ?_
      have hls12 : (List.set S.st (((eds.getD k default).data.getD j default).1.toNat) (x1)).length = (S.st).length := List.length_set
      refine ad (fG 0 7 aS ?_)
      refine bG ?_
      refine aw (aa rfl) (aw (bv rfl) ?_)
      refine aw (zz2 (off := 6) (ft := 225) rfl bC rfl lz) ?_
      refine aw (lJ rfl mz) ?_
      refine aw (zz2 (off := 0) (ft := 3) rfl ig rfl aC) ?_
      refine aw (aJ rfl aN) ?_
      refine aw (jt rfl rfl eF bW) ?_
      refine bH ?_
      refine gh (l := S.mb) (i := ((eds.getD k default).data.getD j default).1.toNat) (true) rfl rfl bW ?_
      have hls13 : (List.set S.mb (((eds.getD k default).data.getD j default).1.toNat) (true)).length = (S.mb).length := List.length_set
      refine aB (aX (ac (ao (zz0 (cp rfl rfl) ?_))))
      refine zz0 (aa rfl) (ad ?_)
      have hne : oP l gd k S ((eds.getD k default).data.getD j default) ≠ (S.st.getD ((eds.getD k default).data.getD j default).1.toNat default) := by rw [← hx1]; assumption
      have hfy := Ex (by omega) hS hne
      rw [← hx1] at hfy
      apply il (j + 1)
      ·exact rfl
      ·exact (Front.c Front.nil)
      ·exact bB 27 rfl
      ·exact (by show Pick _ [rowE VB 37 cH (((eds.getD k default).data.take (j + 1)).foldl (fb l gd k) (ia k s)).st, rowE VV 3 bQ (((eds.getD k default).data.take (j + 1)).foldl (fb l gd k) (ia k s)).vs, rowE VM 4 cD (((eds.getD k default).data.take (j + 1)).foldl (fb l gd k) (ia k s)).mb]; rw [hfy]; repeat' (first | exact Pick.nil _ | exact Del.here _ | apply Pick.cons | apply Del.there))
      ·exact (by show j + 1 ≤ _; omega)
      ·exact (by (try dsimp only); omega)
     ·refine cd (aX (ac (ao (zz0 (cp rfl rfl) ?_))))
      refine zz0 (aa rfl) (ad ?_)
      have hne : oP l gd k S ((eds.getD k default).data.getD j default) = (S.st.getD ((eds.getD k default).data.getD j default).1.toNat default) := by rw [← hx1]; assumption
      have hfn := Gb (by omega) hS hne
      apply il (j + 1)
      ·exact rfl
      ·exact (Front.c Front.nil)
      ·exact bB 12 rfl
      ·exact (by show Pick _ [rowE VB 37 cH (((eds.getD k default).data.take (j + 1)).foldl (fb l gd k) (ia k s)).st, rowE VV 3 bQ (((eds.getD k default).data.take (j + 1)).foldl (fb l gd k) (ia k s)).vs, rowE VM 4 cD (((eds.getD k default).data.take (j + 1)).foldl (fb l gd k) (ia k s)).mb]; rw [hfn]; repeat' (first | exact Pick.nil _ | exact Del.here _ | apply Pick.cons | apply Del.there))
      ·exact (by show j + 1 ≤ _; omega)
      ·exact (by (try dsimp only); omega)
 ·refine bF (aG (aG (bj ?_)))
  refine fq Tryz.results164 (fun w' hw => ?_)
  have hSS : ju l gd (eds.getD k default).data k s = S := by rw [hS, show j = (eds.getD k default).data.length by omega, List.take_length]; rfl
  rw [hSS]
  exact ⟨(), rfl, hw.upd (Bg.le.refl _) (by repeat' constructor), trivial⟩
end Go.Proofs.YtiajjbhcpeadfaaGreat
namespace Go.HL
open Go
theorem oZ {α : Type} {l : List α} {k j : Nat} {x d : α} : (l.set k x).getD j d = if k = j ∧ k < l.length then x else l.getD j d := by
 simp only [List.getD_eq_getElem?_getD, List.getElem?_set]
 by_cases h : k = j
 ·subst h
  by_cases h2 : k < l.length
  ·simp [h2]
  ·simp [h2]
 ·simp [h]
def dT (l : List Ins) (a : UInt32) : Int := dW (fun i : Ins => decide (i.addr = a)) 0 l
theorem BD {α : Type} [Inhabited α] (p : α → Bool) : ∀ (l : List α) (k j : Nat), j < l.length → p (l.getD j default) = true → 0 ≤ dW p k l ∧ dW p k l ≤ (k + j : Nat)
 | [], k, j, h, _ => by simp at h
 | x :: l, k, j, h, hp => by
  unfold dW
  by_cases hx : p x = true
  ·rw [if_pos hx]; omega
  ·rw [if_neg hx]
   cases j with
   | zero => exact absurd hp hx
   | succ j =>
    have := BD p l (k + 1) j (by simpa using h) hp
    omega
theorem zh {l : List Ins} {k : Nat} (h : k < l.length) : 0 ≤ dT l (l.getD k default).addr ∧ dT l (l.getD k default).addr ≤ k := by
 have := BD (fun i : Ins => decide (i.addr = (l.getD k default).addr)) l 0 k h (by simp)
 unfold dT; omega
theorem zi {l : List Ins} {a : UInt32} (h : 0 ≤ dT l a) : (l.getD (dT l a).toNat default).addr = a := by
 have := (xw (fun i : Ins => decide (i.addr = a)) l 0 h).2
 rw [Int.natCast_zero, Int.sub_zero] at this
 exact of_decide_eq_true this
theorem ri (l : List Ins) (a : UInt32) : -1 ≤ dT l a ∧ dT l a < l.length := by
 have := jP (fun i : Ins => decide (i.addr = a)) l 0
 unfold dT; omega
def atK (l : List Ins) : Nat → List (UInt32 × Int)
 | 0 => []
 | k + 1 => if (dK (atK l k) (l.getD k default).addr).isSome = true then atK l k else fg (atK l k) (l.getD k default).addr (k : Int)
theorem xN (l : List Ins) (a : UInt32) : ∀ (k : Nat), k ≤ l.length → dK (atK l k) a = if 0 ≤ dT l a ∧ dT l a < k then some (dT l a) else none
 | 0, _ => by simp only [atK, dK]; rw [if_neg (by omega)]
 | k + 1, h => by
  have ih := xN l a k (by omega)
  have ihb := xN l (l.getD k default).addr k (by omega)
  have hf := zh (l := l) (k := k) (by omega)
  unfold atK
  by_cases hs : (dK (atK l k) (l.getD k default).addr).isSome = true
  ·rw [if_pos hs, ih]
   have hk : dT l (l.getD k default).addr < k := by
    rw [ihb] at hs; split at hs
    ·omega
    ·simp at hs
   have hne : dT l a ≠ (k : Int) := by
    intro e
    have h1 := zi (l := l) (a := a) (by omega)
    rw [e, Int.toNat_natCast] at h1
    rw [h1] at hk; omega
   by_cases hc : 0 ≤ dT l a ∧ dT l a < k
   ·rw [if_pos hc, if_pos (by omega)]
   ·rw [if_neg hc, if_neg (by omega)]
  ·rw [if_neg hs, ux, ih]
   have hk : dT l (l.getD k default).addr = k := by
    rw [ihb] at hs
    by_cases hc : 0 ≤ dT l (l.getD k default).addr ∧ dT l (l.getD k default).addr < k
    ·rw [if_pos hc] at hs; simp at hs
    ·omega
   by_cases ha : a = (l.getD k default).addr
   ·subst ha
    rw [if_pos rfl, hk, if_pos (by omega)]
   ·rw [if_neg ha]
    have hne : dT l a ≠ (k : Int) := by
     intro e
     have h1 := zi (l := l) (a := a) (by omega)
     rw [e, Int.toNat_natCast] at h1
     exact ha h1.symm
    by_cases hc : 0 ≤ dT l a ∧ dT l a < k
    ·rw [if_pos hc, if_pos (by omega)]
    ·rw [if_neg hc, if_neg (by omega)]
theorem AV (l : List Ins) (a : UInt32) : dK (atK l l.length) a = if dT l a < 0 then none else some (dT l a) := by
 have h := ri l a
 rw [xN l a l.length (Nat.le_refl _)]
 by_cases hc : dT l a < 0
 ·rw [if_pos hc, if_neg (by omega)]
 ·rw [if_neg hc, if_pos (by omega)]
structure CSt where
 es : List (List (Int × Bool))
 into : List (List Int)
def stepJ (l : List Ins) (k : Nat) (s : CSt) (n : Nat) : CSt :=
 if dT l ((dN (l.getD k default)).getD n default) < 0 then s
 else ⟨s.es.set k (s.es.getD k [] ++ [(dT l ((dN (l.getD k default)).getD n default), decide ((n : Int) = 0))]),
  s.into.set (dT l ((dN (l.getD k default)).getD n default)).toNat (s.into.getD (dT l ((dN (l.getD k default)).getD n default)).toNat [] ++ [(k : Int)])⟩
def jr (l : List Ins) (k : Nat) (s : CSt) : Nat → CSt
 | 0 => s
 | n + 1 => stepJ l k (jr l k s n) n
def jA (l : List Ins) : Nat → CSt
 | 0 => ⟨List.replicate l.length [], List.replicate l.length []⟩
 | k + 1 => if dT l (l.getD k default).addr = k then jr l k (jA l k) (dN (l.getD k default)).length else jA l k
def mL (l : List Ins) (e : Nat) (into : List (List Int)) (k : Nat) : Int :=
 if (l.getD k default).op = 20 ∧ iZ (l.getD k default) = 0 ∧ (l.getD k default).addr ≠ (l.getD e default).addr ∧ (into.getD k []).length = 1 ∧ AN (l.getD ((into.getD k []).getD 0 default).toNat default) = true
 then (into.getD k []).getD 0 default else -1
def kZ (l : List Ins) : List (List (Int × Bool)) := (jA l l.length).es
def eY (l : List Ins) (e : Nat) : List Int := (List.range l.length).map (mL l e (jA l l.length).into)
structure COk (l : List Ins) (s : CSt) (k : Nat) : Prop where
 le : s.es.length = l.length
 li : s.into.length = l.length
 e : ∀ t ∈ s.es, ∀ x ∈ t, 0 ≤ x.1 ∧ x.1 < (l.length : Int)
 i : ∀ t ∈ s.into, ∀ x ∈ t, 0 ≤ x ∧ x < (l.length : Int)
 eb : ∀ j, (s.es.getD j []).length ≤ 2
 ib : ∀ j, (s.into.getD j []).length ≤ 2 * k
theorem uy {α : Type} {l : List α} {k : Nat} {x y : α} (h : y ∈ l.set k x) : y = x ∨ y ∈ l := by
 rcases List.mem_or_eq_of_mem_set h with h | h
 ·exact .inr h
 ·exact .inl h
theorem getD_mem {α : Type} {l : List (List α)} {k : Nat} {x : α} (h : x ∈ l.getD k []) : l.getD k [] ∈ l := by
 by_cases hk : k < l.length
 ·have := cZ (l := l) hk
  have e : (default : List α) = [] := rfl
  rwa [e] at this
 ·rw [List.getD_eq_getElem?_getD, List.getElem?_eq_none (by omega)] at h; simp at h
theorem o9 {l : List Ins} {k : Nat} {s : CSt} (hk : k < l.length) (h : COk l s k) (h0 : (s.es.getD k []).length = 0) : ∀ n, n ≤ 2 → 
    (jr l k s n).es.length = l.length ∧ (jr l k s n).into.length = l.length ∧ (∀ t ∈ (jr l k s n).es, ∀ x ∈ t, 0 ≤ x.1 ∧ x.1 < (l.length : Int)) ∧ (∀ t ∈ (jr l k s n).into, ∀ x ∈ t, 0 ≤ x ∧ x < (l.length : Int)) ∧
    (∀ j, ((jr l k s n).es.getD j []).length ≤ if j = k then n else 2) ∧ (∀ j, ((jr l k s n).into.getD j []).length ≤ 2 * k + n) ∧ (∀ j, j ≠ k → (jr l k s n).es.getD j [] = s.es.getD j [])
  | 0, _ => ⟨h.le, h.li, h.e, h.i, fun j => by
      by_cases hj : j = k
      · rw [if_pos hj, hj]; exact Nat.le_of_eq h0
      · rw [if_neg hj]; exact h.eb j, h.ib, fun _ _ => rfl⟩
  | n + 1, hn => by
    obtain ⟨h1, h2, h3, h4, h5, h6, h7⟩ := o9 hk h h0 n (by omega)
    simp only [jr]
    have hf := ri l ((dN (l.getD k default)).getD n default)
    unfold stepJ
    by_cases hc : dT l ((dN (l.getD k default)).getD n default) < 0
    · rw [if_pos hc]
      refine ⟨h1, h2, h3, h4, fun j => ?_, fun j => Nat.le_trans (h6 j) (by omega), h7⟩
      have := h5 j
      split at this <;> rename_i q
      · rw [if_pos q]; omega
      · rw [if_neg q]; omega
    · rw [if_neg hc]
      refine ⟨by rw [List.length_set]; exact h1, by rw [List.length_set]; exact h2, fun t ht x hx => ?_, fun t ht x hx => ?_, fun j => ?_, fun j => ?_, fun j hj => ?_⟩
      · rcases uy ht with rfl | ht
        · rcases List.mem_append.1 hx with hx | hx
          · exact h3 _ (getD_mem hx) x hx
          · rw [List.mem_singleton.1 hx]; exact ⟨by omega, hf.2⟩
        · exact h3 t ht x hx
      · rcases uy ht with rfl | ht
        · rcases List.mem_append.1 hx with hx | hx
          · exact h4 _ (getD_mem hx) x hx
          · rw [List.mem_singleton.1 hx]; omega
        · exact h4 t ht x hx
      · rw [oZ]
        have hkk := h5 k
        rw [if_pos rfl] at hkk
        by_cases hj : j = k
        · subst hj
          rw [if_pos ⟨rfl, by omega⟩, if_pos rfl, List.length_append]
          simp only [List.length_cons, List.length_nil]; omega
        · rw [if_neg (by omega), if_neg hj]
          have := h5 j; rw [if_neg hj] at this; exact this
      · rw [oZ]
        split
        · rename_i q
          rw [List.length_append]
          have := h6 (dT l ((dN (l.getD k default)).getD n default)).toNat
          simp only [List.length_cons, List.length_nil]; omega
        · exact Nat.le_trans (h6 j) (by omega)
      · rw [oZ, if_neg (by omega)]; exact h7 j hj
theorem uR (l : List Ins) : ∀ k, k ≤ l.length → COk l (jA l k) k ∧ ∀ j, k ≤ j → (jA l k).es.getD j [] = []
 | 0, _ => by
  refine ⟨⟨by simp [jA], by simp [jA], fun t ht x hx => ?_, fun t ht x hx => ?_, fun j => ?_, fun j => ?_⟩, fun j _ => ?_⟩
  ·rw [(List.mem_replicate.1 ht).2] at hx; simp at hx
  ·rw [(List.mem_replicate.1 ht).2] at hx; simp at hx
  all_goals
   simp only [jA, List.getD_eq_getElem?_getD, List.getElem?_replicate]
   split <;> simp
 | k + 1, h => by
  obtain ⟨ih, ihe⟩ := uR l k (by omega)
  unfold jA
  split
  ·have hsl : (dN (l.getD k default)).length ≤ 2 := jZ _
   obtain ⟨h1, h2, h3, h4, h5, h6, h7⟩ := o9 (l := l) (k := k) (by omega) ih (by rw [ihe k (Nat.le_refl _)]; rfl) _ hsl
   exact ⟨⟨h1, h2, h3, h4, fun j => Nat.le_trans (h5 j) (by split <;> omega), fun j => Nat.le_trans (h6 j) (by omega)⟩, fun j hj => by rw [h7 j (by omega)]; exact ihe j (by omega)⟩
  ·exact ⟨⟨ih.le, ih.li, ih.e, ih.i, ih.eb, fun j => Nat.le_trans (ih.ib j) (by omega)⟩, fun j hj => ihe j (by omega)⟩
theorem rm (l : List Ins) {k : Nat} (h : k ≤ l.length) : COk l (jA l k) k := (uR l k h).1
theorem CQ (l : List Ins) (e k : Nat) : mL l e (jA l l.length).into k < (l.length : Int) := by
 unfold mL
 split
 ·rename_i h
  have hm : ((jA l l.length).into.getD k []).getD 0 default ∈ (jA l l.length).into.getD k [] := cZ (by omega)
  exact ((rm l (Nat.le_refl _)).i _ (getD_mem hm) _ hm).2
 ·omega
def mM (mb : List Bool) : Int := dW (fun x : Bool => decide (true = x)) 0 mb
def iE (l : List Ins) (gd : List Int) (es : List (List (Int × Bool))) : Nat → VSt → List StV × Int
 | 0, s => if mM s.mb < 0 then (s.st, 0) else ([], 15)
 | n + 1, s => if mM s.mb < 0 then (s.st, 0) else iE l gd es n (ju l gd (es.getD (mM s.mb).toNat []) (mM s.mb).toNat s)
def qg (l : List Ins) (e : Nat) : VSt := ⟨(List.replicate l.length (iQ 8)).set e (wP 8), List.replicate l.length 0, (List.replicate l.length false).set e true⟩
def eH (l : List Ins) (entry : UInt32) (rounds : Nat) : List StV × Int :=
 if 4096 < l.length then ([], 6) else if dT l entry < 0 then ([], 9)
 else iE l (eY l (dT l entry).toNat) (kZ l) rounds (qg l (dT l entry).toNat)
end Go.HL
namespace Go.HL
open Go
section
variable {P : Program} {N : Nat} {F : Bg} {L A B : List Ent} {M : Fr} {X : Act → World → Prop}
theorem getD_at {α : Type} [Inhabited α] {l : List α} {i : Nat} (h : i < l.length) : l[i] = l.getD i default := by simp [List.getD_eq_getElem?_getD, h]
theorem zM {α : Type} [Inhabited α] {f : α → Ent} {rs : List α} (i : Nat) (h : i < rs.length) (K : Tr N F (f (rs.getD i default) :: (A ++ ((rs.eraseIdx i).map f ++ L))) M X) : Tr N F (A ++ (rs.map f ++ L)) M X :=
 Gx i h (by rw [getD_at h]; exact K)
theorem E7 {α : Type} [Inhabited α] {f : α → Ent} {rs : List α} (i : Nat) (h : i < rs.length) (K : Tr N F (f (rs.getD i default) :: (A ++ (B ++ ((rs.eraseIdx i).map f ++ L)))) M X) : Tr N F (A ++ (B ++ (rs.map f ++ L))) M X := by
 rw [← List.append_assoc] at K ⊢
 exact zM i h K
theorem E6 {α : Type} {f : α → Ent} {rs : List α} (i : Nat) (y : α) (h : i < rs.length) (K : Tr N F (A ++ (B ++ ((rs.set i y).map f ++ L))) M X) : Tr N F (f y :: (A ++ (B ++ ((rs.eraseIdx i).map f ++ L)))) M X := by
 rw [← List.append_assoc] at K ⊢
 exact xX i y h K
theorem ug {α : Type} {w : World} (T : TypeId) (E : Enc α) (h : HpOK F L w) : ∀ n, HpOK F ((List.replicate n (default : RV α)).map (rvE T E) ++ L) w
 | 0 => h
 | n + 1 => Bv T E (ug T E h n)
theorem E8 {α β : Type} (T T' : TypeId) (E : Enc α) (E' : Enc β) (n : Nat) (K : Tr N F (L ++ ((List.replicate n (default : RV α)).map (rvE T E) ++ ((List.replicate n (default : RV β)).map (rvE T' E') ++ []))) M X) : Tr N F L M X :=
 fun a w ha hw => K a w ha ((ug T E (ug T' E' hw n) n).perm (by
  rw [List.append_nil]
  refine List.perm_append_comm.trans ?_
  rw [List.append_assoc]))
theorem ol {α : Type} {T : TypeId} {E : Enc α} (rs : List (RV α)) {F : Bg} (K : ∀ F', F.le F' → RvIn E F'.blk rs → Tr N F' A M X) : Tr N F (A ++ (rs.map (rvE T E) ++ [])) M X := by
 refine pP (L' := (rs.map (fun r : RV α => (Value.slice r.dp r.data.length r.dc, r.data))).map (fun r : Value × List α => rowE r.1 T E r.2) ++ A) ?_ (ry (rs.map (fun r : RV α => (Value.slice r.dp r.data.length r.dc, r.data))) fun F' h1 h2 => K F' h1 fun t ht => ?_)
 ·rw [List.append_nil, List.map_map]
  exact List.perm_append_comm
 ·exact h2 _ (List.mem_map.2 ⟨t, ht, rfl⟩)
theorem vz {α : Type} {T : TypeId} {E : Enc α} (rs : List (RV α)) {F : Bg} (K : ∀ F', F.le F' → RvIn E F'.blk rs → Tr N F' (A ++ (B ++ [])) M X) : Tr N F (A ++ (B ++ (rs.map (rvE T E) ++ []))) M X := by
 rw [← List.append_assoc]
 refine ol rs fun F' h1 h2 => ?_
 have := K F' h1 h2
 rwa [List.append_nil] at this
end
def iu (x : Int) : Value := .int .i64 x
theorem un (o : Option Int) : uq iu (.int .i64 0) o = .int .i64 (o.getD 0) := by cases o <;> rfl
section
variable {P : Program} {N : Nat} {F : Bg} {L : List Ent} {M : Fr} {dst : Option Tmp} {ty : TypeId} {pos : String} {after : Array Edge} {g : Option (Nat × Bool)} {l : List (UInt32 × Int)} {x y : Operand} {t K e : TypeId} {b : Nat} {k : UInt32}
theorem yf {x y : Operand} {V : Value} {bb n c kz i : Nat} {kk : IntKind} (hx : opv M x = some V) (hy : opv M y = some (.int kk i)) (hV : V = .slice (some ⟨bb, 0, none⟩) n c) (ht : P.underlying t = some (.slice e)) (hz : ∀ w, (sizeOf e).run P w = .ok kz w) (hi : i < n) :
  QS P N F L M ⟨dst, .indexAddr t x y, ty, pos, after, g⟩ (.pointer (some ⟨bk V, ofs V + i * kz, none⟩)) :=
 cE fun A w ha hw => by
  have := ml (V := .nilFunc) (c := c) (kk := kk) (n := n) (i := (i : Int)) ht hz w ⟨Int.natCast_nonneg _, Int.ofNat_lt.2 hi⟩ bb 0 rfl
  subst hV
  simp [execOp, ha.eval hx, ha.eval hy, this, bk, ofs]
theorem u0 (hx : opv M x = some (.map (some b))) (hy : opv M y = some (.int .u32 k.toNat)) (hm : mapE b iu l ∈ L) (ht : P.underlying t = some (.map K e)) (hK : P.underlying K = some (.int .u32)) (hz : ∀ w, (zeroValue e).run P w = .ok (.int .i64 0) w) :
  QS P N F L M ⟨dst, .lookup t x y true, ty, pos, after, g⟩ (.tuple #[.int .i64 ((dK l k).getD 0), .bool (dK l k).isSome]) := by
 have h := wI (P := P) (N := N) (F := F) (L := L) (M := M) (dst := dst) (ty := ty) (pos := pos) (after := after) (g := g) hx hy hm ht hK hz
 rw [un] at h; exact h
theorem C4 (hx : opv M x = some (.map (some b))) (hy : opv M y = some (.int .u32 k.toNat)) (hm : MapIn F.blk b iu l) (ht : P.underlying t = some (.map K e)) (hK : P.underlying K = some (.int .u32)) (hz : ∀ w, (zeroValue e).run P w = .ok (.int .i64 0) w) :
  QS P N F L M ⟨dst, .lookup t x y false, ty, pos, after, g⟩ (.int .i64 ((dK l k).getD 0)) := by
 have h := u3 (P := P) (N := N) (F := F) (L := L) (M := M) (dst := dst) (ty := ty) (pos := pos) (after := after) (g := g) hx hy hm ht hK hz
 rw [un] at h; exact h
theorem zT (hx : opv M x = some (.map (some b))) (hy : opv M y = some (.int .u32 k.toNat)) (hm : MapIn F.blk b iu l) (ht : P.underlying t = some (.map K e)) (hK : P.underlying K = some (.int .u32)) (hz : ∀ w, (zeroValue e).run P w = .ok (.int .i64 0) w) :
  QS P N F L M ⟨dst, .lookup t x y true, ty, pos, after, g⟩ (.tuple #[.int .i64 ((dK l k).getD 0), .bool (dK l k).isSome]) := by
 have h := u2 (P := P) (N := N) (F := F) (L := L) (M := M) (dst := dst) (ty := ty) (pos := pos) (after := after) (g := g) hx hy hm ht hK hz
 rw [un] at h; exact h
end
section
variable {P : Program} {ops : Array Oper} {Q : Exit → Act → World → Prop} {N : Nat} {F : Bg} {L : List Ent} {M : Fr} {ty : TypeId} {pos : String} {after : Array Edge} {d : Nat} {L0 : List Ent} {fuel : Nat} {listed : Array Bool}
theorem BV {x : Operand} {t e : TypeId} {a : Option Addr} {n c : Nat} (i : Nat) (hi : ops[i]? = some ⟨some d, .call { callee := .builtin .len, args := #[x], argTypes := #[t] }, ty, pos, after, none⟩) (hB : takeB ops listed i = true) (hQ : ∀ c a d v w, Q (.panic c) (a.put d v) w → Q (.panic c) a w)
  (hx : opv M x = some (.slice a n c)) (ht : P.underlying t = some (.slice e)) (k : Tr N F L ((d, .int .i64 (n : Nat)) :: M) (wpAnyH P .any ops Q (HpOK F L0) fuel (listed.setIfInBounds i true)))
  (hd : Nat.ble (d + 1) N = true := by rfl) (hL : Pick L L0 := by repeat' (first | exact Pick.nil _ | exact Del.here _ | apply Pick.cons | apply Del.there)) :
  Tr N F L M (wpAnyH P .any ops Q (HpOK F L0) (fuel + 1) listed) := by
 simp only [takeB, Bool.and_eq_true] at hB
 intro A w ha hw
 exact wpAnyH_take hi hB.1.1 hB.1.2 hB.2 (fun c a w => hQ c a _ _ w) (.inl ⟨by simp [Region.wanted], fun w' hw' => by simp [execOp, resolve, invoke, builtin, Builtin.len_, ha.eval hx, run_underlying ht, goInt]⟩) (hL.heap hw) (k _ _ (ha.put (Nat.le_of_ble_eq_true hd)) hw)
end
theorem BM {l : List Ins} {k : Nat} (h : dT l (l.getD k default).addr ≠ (k : Int)) : jA l (k + 1) = jA l k := if_neg h
theorem zr {l : List Ins} {k : Nat} (h : dT l (l.getD k default).addr = (k : Int)) : jA l (k + 1) = jr l k (jA l k) (dN (l.getD k default)).length := if_pos h
theorem zt {l : List Ins} {k j : Nat} {s : CSt} (h : dT l ((dN (l.getD k default)).getD j default) < 0) : jr l k s (j + 1) = jr l k s j := if_pos h
theorem wq {l : List Ins} {k j : Nat} {s : CSt} (h : ¬ dT l ((dN (l.getD k default)).getD j default) < 0) : jr l k s (j + 1) =
  ⟨(jr l k s j).es.set k ((jr l k s j).es.getD k [] ++ [(dT l ((dN (l.getD k default)).getD j default), decide ((j : Int) = 0))]),
  (jr l k s j).into.set (dT l ((dN (l.getD k default)).getD j default)).toNat ((jr l k s j).into.getD (dT l ((dN (l.getD k default)).getD j default)).toNat [] ++ [(k : Int)])⟩ := if_neg h
theorem mh {α : Type} {rs : List (RV α)} {L : List (List α)} (h : rs.map (·.data) = L) (j : Nat) : (rs.getD j default).data = L.getD j [] := by
 subst h
 simp only [List.getD_eq_getElem?_getD, List.getElem?_map]
 cases rs[j]? <;> rfl
theorem DK {α : Type} {rs : List (RV α)} {L : List (List α)} (h : rs.map (·.data) = L) (k : Nat) (x : α) (p : Option Addr) (c : Nat) : (rs.set k ⟨(rs.getD k default).data ++ [x], p, c⟩).map (·.data) = L.set k (L.getD k [] ++ [x]) := by
 rw [List.map_set, h, mh h]
theorem Hm {gd : List Int} {n k : Nat} {f : Nat → Int} (hl : gd.length = n) (h : ∀ j, j < k → gd.getD j default = f j) (hk : k < n) : ∀ j, j < k + 1 → (gd.set k (f k)).getD j default = f j := by
 intro j hj
 rw [oZ]
 by_cases e : k = j
 ·subst e; rw [if_pos ⟨rfl, by omega⟩]
 ·rw [if_neg (by omega)]; exact h j (by omega)
theorem H5 {gd : List Int} {n k : Nat} {f : Nat → Int} (hl : gd.length = n) (h : ∀ j, j < k → gd.getD j default = f j) (h2 : gd.getD k default = f k) : ∀ j, j < k + 1 → gd.getD j default = f j := by
 intro j hj
 by_cases e : j = k
 ·subst e; exact h2
 ·exact h j (by omega)
theorem H4 {gd : List Int} {n k : Nat} {x c : Int} (h : ∀ j, k ≤ j → j < n → gd.getD j default = c) : ∀ j, k + 1 ≤ j → j < n → (gd.set k x).getD j default = c := by
 intro j h1 h2
 rw [oZ, if_neg (by omega)]; exact h j (by omega) h2
theorem CS {gd : List Int} {l : List Ins} {e : Nat} (hl : gd.length = l.length) (h : ∀ j, j < l.length → gd.getD j default = mL l e (jA l l.length).into j) : gd = eY l e := by
 unfold eY
 apply List.ext_getElem
 ·simp [hl]
 ·intro i h1 h2
  have := h i (by omega)
  rw [← getD_at h1] at this
  rw [this]; simp
section
variable {N : Nat} {F : Bg} {L A : List Ent} {M : Fr} {X : Act → World → Prop}
theorem ya {α : Type} {T : TypeId} {E : Enc α} (rs : List (RV α)) (K : ∀ F', F.le F' → RvIn E F'.blk rs → Tr N F' (A ++ L) M X) : Tr N F (A ++ (rs.map (rvE T E) ++ L)) M X := by
 refine pP (L' := (A ++ L) ++ (rs.map (rvE T E) ++ [])) ?_ (ol rs fun F' h1 h2 => K F' h1 h2)
 rw [List.append_nil, List.append_assoc]
 exact (List.perm_append_comm (l₁ := L)).append_left _
end
theorem uI (l : List Ins) (e : Nat) : (eY l e).length = l.length := by unfold eY; simp
theorem CP (l : List Ins) (e : Nat) : ∀ j, j < (eY l e).length → (eY l e).getD j default < (l.length : Int) := by
 intro j h
 rw [uI] at h
 unfold eY
 rw [← getD_at (by simpa using h)]
 simp only [List.getElem_map]
 exact CQ l e _
theorem CW {l : List Ins} {rs : List EdV} (h : rs.map (·.data) = kZ l) : rs.length = l.length := by
 have := congrArg List.length h
 rw [List.length_map] at this
 exact this.trans (rm l (Nat.le_refl _)).le
theorem Gm {l : List Ins} {rs : List EdV} (h : rs.map (·.data) = kZ l) (k : Nat) : ∀ e ∈ (rs.getD k default).data, 0 ≤ e.1 ∧ e.1 < (l.length : Int) := by
 intro e he
 rw [mh h] at he
 exact (rm l (Nat.le_refl _)).e _ (getD_mem he) e he
theorem vx {l : List Ins} {gd : List Int} {es : List (List (Int × Bool))} {n : Nat} {s : VSt} (h : mM s.mb < 0) : iE l gd es n s = (s.st, 0) := by
 cases n <;> exact if_pos h
theorem vw {l : List Ins} {gd : List Int} {es : List (List (Int × Bool))} {n : Nat} {s : VSt} (h : ¬ mM s.mb < 0) : iE l gd es (n + 1) s = iE l gd es n (ju l gd (es.getD (mM s.mb).toNat []) (mM s.mb).toNat s) := if_neg h
theorem xQ {l : List Ins} {gd : List Int} {es : List (List (Int × Bool))} {s : VSt} (h : ¬ mM s.mb < 0) : iE l gd es 0 s = ([], 15) := if_neg h
theorem Ad (l : List Ins) (gd : List Int) (es : List (Int × Bool)) (k : Nat) (s : VSt) : (ju l gd es k s).st.length = s.st.length ∧ (ju l gd es k s).vs.length = s.vs.length ∧ (ju l gd es k s).mb.length = s.mb.length := by
 have h := nI l gd k es (ia k s)
 exact ⟨h.1, (congrArg List.length h.2.1).trans List.length_set, h.2.2.trans List.length_set⟩
theorem Do {l : List Ins} {gd : List Int} {es : List (Int × Bool)} {k n : Nat} {s : VSt} (hk : k < s.vs.length) (h : ∀ v ∈ s.vs, 0 ≤ v ∧ v ≤ (n : Int)) : ∀ v ∈ (ju l gd es k s).vs, 0 ≤ v ∧ v ≤ ((n + 1 : Nat) : Int) := by
 intro v hv
 have e : (ju l gd es k s).vs = s.vs.set k (s.vs.getD k default + 1) := (nI l gd k es (ia k s)).2.1
 rw [e] at hv
 rcases uy hv with rfl | hv
 ·have := h _ (cZ hk); omega
 ·have := h v hv; omega
end Go.HL
namespace Go.Proofs.YtiajjbhcpeadfaaGreat
open Go Go.HL Go.RowKit
theorem zq (l : List Ins) (e bx bm : Nat) (VI VB VV VM : Value) (w : World) (ho : OwnAt w [cellE bx [VI, .map (some bm), .slice none 0 0, .slice none 0 0, VB, VV, VM] 228]) (hI : Sl (Bg.lessB w [bx] 0).blk aP l VI) (hA : MapIn (Bg.lessB w [bx] 0).blk bm iu (atK l l.length)) (hIO : ∀ x ∈ l, InsOK x) (he : e < l.length) (hll : l.length ≤ 4096) :
  Calls Tryz.prog 161 #[.pointer (some ⟨bx, 0, none⟩), .int .i64 (e : Nat)] w (fun e' w' => ∃ i : Value × Value × List EdV, e' = .returned (.tuple #[]) ∧ Upd 0 w w' (c9 [cellE bx [VI, .map (some bm), .slice none 0 0, .slice none 0 0, VB, VV, VM] 228]) (cellE bx [VI, .map (some bm), i.1, i.2.1, VB, VV, VM] 228 :: rowE i.2.1 3 bQ (eY l e) :: rowE i.1 272 gJ i.2.2 :: i.2.2.map (rvE 274 eP)) ∧ i.2.2.map (·.data) = kZ l) := by
 refine qo (L := [cellE bx [VI, .map (some bm), .slice none 0 0, .slice none 0 0, VB, VV, VM] 228]) ho rfl (Nat.zero_le _) Tryz.func161 rfl Tryz.ntmps161 rfl ?_
 refine af (zz0 (aa rfl) (zz0 (bv rfl) ?_))
 refine zz0 (zz2 (off := 0) (ft := 50) rfl bC rfl du) ?_
 refine zz0 (kb rfl dH) ?_
 refine zz0 (gx rfl aM) ?_
 refine jo (E := (dE (α := Int))) default rfl rfl gr zZ rfl rfl rfl (by constructor <;> omega) rfl (fun b1 => ?_)
 obtain ⟨VQ, hVQ⟩ : ∃ V, V = Value.slice (some ⟨b1, 0, none⟩) (List.replicate l.length (default : RV Int)).length l.length := ⟨_, rfl⟩
 rw [← hVQ]
 refine zz0 (ab rfl) (aI (zz0 (aa rfl) (zz0 (aa rfl) (zz0 (bv rfl) ?_))))
 refine zz0 (zz2 (off := 0) (ft := 50) rfl bC rfl du) ?_
 refine zz0 (kb rfl dH) ?_
 refine zz0 (gx rfl aM) ?_
 refine jo (E := gJ) default rfl rfl ii zY rfl rfl rfl (by constructor <;> omega) rfl (fun b2 => ?_)
 refine zz0 (bv rfl) ?_
 refine zz0 (zz2 (off := 2) (ft := 226) rfl bC rfl j5) ?_
 refine zz3 rfl rfl j5 rfl ?_
 refine aI (zz0 (aa rfl) (zz0 (aa rfl) (zz0 (bv rfl) ?_)))
 refine zz0 (zz2 (off := 0) (ft := 50) rfl bC rfl du) ?_
 refine zz0 (kb rfl dH) ?_
 refine zz0 (gx rfl aM) ?_
 refine jo (E := bQ) 0 rfl rfl cQ kl rfl rfl rfl (by constructor <;> omega) rfl (fun b3 => ?_)
 refine zz0 (bv rfl) ?_
 refine zz0 (zz2 (off := 3) (ft := 224) rfl bC rfl eI) ?_
 refine zz3 rfl rfl eI rfl ?_
 change Tr _ _ [rowE (Value.slice (some ⟨b3, 0, none⟩) (List.replicate l.length (0 : Int)).length l.length) 3 bQ (List.replicate l.length 0), rowE (Value.slice (some ⟨b2, 0, none⟩) (List.replicate l.length (default : EdV)).length l.length) 272 gJ (List.replicate l.length default), rowE VQ 224 dE (List.replicate l.length default), cellE bx [VI, .map (some bm), Value.slice (some ⟨b2, 0, none⟩) (List.replicate l.length (default : EdV)).length l.length, Value.slice (some ⟨b3, 0, none⟩) (List.replicate l.length (0 : Int)).length l.length, VB, VV, VM] 228] _ _
 obtain ⟨VE, hVE⟩ : ∃ V, V = Value.slice (some ⟨b2, 0, none⟩) (List.replicate l.length (default : EdV)).length l.length := ⟨_, rfl⟩
 rw [← hVE]
 obtain ⟨VG, hVG⟩ : ∃ V, V = Value.slice (some ⟨b3, 0, none⟩) (List.replicate l.length (0 : Int)).length l.length := ⟨_, rfl⟩
 rw [← hVG]
 refine ad (al (af (zz0 (aa rfl) (zz0 (bv rfl) ?_))))
 refine zz0 (zz2 (off := 0) (ft := 50) rfl bC rfl du) ?_
 refine zz0 (kb rfl dH) ?_
 refine zz0 (gx rfl aM) ?_
 refine zz0 (aa rfl) (ad (aD (E8 274 3 eP bQ l.length ?_)))
 refine bK (ι := Nat × List EdV × List (RV Int) × List Int) (fun ⟨k, rs, qs, gd⟩ => k ≤ l.length ∧ (rs.map (·.data) = (jA l k).es ∧ qs.map (·.data) = (jA l k).into) ∧ gd.length = l.length ∧ ∀ j, j < k → gd.getD j default = -1) (fun _ => (Bg.lessB w [bx] 0)) (fun ⟨k, rs, qs, gd⟩ => (cellE bx [VI, .map (some bm), VE, VG, VB, VV, VM] 228 :: rowE VG 3 bQ gd :: rowE VE 272 gJ rs :: rowE VQ 224 dE qs :: (rs.map (rvE 274 eP) ++ (qs.map (rvE 3 bQ) ++ [])))) (fun ⟨k, rs, qs, gd⟩ => [(42, .int .i64 (k : Nat))]) (fun ⟨k, rs, qs, gd⟩ => l.length - k) (0, List.replicate l.length default, List.replicate l.length default, List.replicate l.length 0) ⟨Nat.zero_le _, ⟨List.map_replicate, List.map_replicate⟩, List.length_replicate, fun j hj => absurd hj (Nat.not_lt_zero _)⟩ (Front.c Front.nil) (by repeat' (first | exact Pick.refl _ | exact Del.here _ | apply Pick.cons | apply Del.there | apply Pick.skip | exact Pick.nil _)) rfl (fun i hi m hm => ?_)
 obtain ⟨k, rs, qs, gd⟩ := i
 replace hi : k ≤ l.length ∧ (rs.map (·.data) = (jA l k).es ∧ qs.map (·.data) = (jA l k).into) ∧ gd.length = l.length ∧ ∀ j, j < k → gd.getD j default = -1 := hi
 replace hm : m = l.length - k := hm
 change Tr _ _ (cellE bx [VI, .map (some bm), VE, VG, VB, VV, VM] 228 :: rowE VG 3 bQ gd :: rowE VE 272 gJ rs :: rowE VQ 224 dE qs :: (rs.map (rvE 274 eP) ++ (qs.map (rvE 3 bQ) ++ []))) ([(42, .int .i64 (k : Nat))] ++ _) _
 obtain ⟨hk, ⟨hrs, hqs⟩, hgl, hgm⟩ := hi
 have hco := rm l hk
 have hrl : rs.length = l.length := by have := congrArg List.length hrs; rw [List.length_map, hco.le] at this; exact this
 have hql : qs.length = l.length := by have := congrArg List.length hqs; rw [List.length_map, hco.li] at this; exact this
 refine af (zz0 (bP rfl rfl) (ad (al ?_)))
 refine an rfl ?_ ?_ <;> intro h4 <;> try simp only [bs] at h4
 ·refine bA (al (aD (af (zz0 (aa rfl) (zz0 (gK rfl rfl aM ax) ?_)))))
  refine zz0 (mE rfl aU ax) ?_
  refine dD bY rfl (fun b5 => ?_)
  refine zz0 (ab rfl) (aF aP rfl rfl ax ?_)
  refine aI (zz0 (aa rfl) (zz0 (bv rfl) ?_))
  refine zz0 (zz2 (off := 3) (ft := 224) rfl bC rfl eI) ?_
  refine zz0 (kb rfl gm) ?_
  refine zz0 (aa rfl) (zz0 (zz7 rfl rfl cQ aC) ?_)
  refine gh (l := gd) (i := k) ((-1)) rfl rfl aC ?_
  have hls6 : (List.set gd (k) ((-1))).length = (gd).length := List.length_set
  refine ad (al (al (gQ aS ?_)))
  refine aw (aa rfl) (aw (bv rfl) ?_)
  refine aw (zz2 (off := 1) (ft := 223) rfl bC rfl j6) ?_
  refine aw (kb rfl kO) ?_
  refine aw (zz2 (off := 0) (ft := 23) rfl aj rfl ae) ?_
  refine aw (aJ rfl am) ?_
  refine aw (C4 rfl rfl hA ij aL iJ) ?_
  rw [AV, if_neg (by have := zh (l := l) (k := k) (by omega); omega), Option.getD_some]
  refine aw (aa rfl) (aw (fU rfl rfl) (bH ?_))
  refine ac ?_
  refine an rfl ?_ ?_ <;> intro h7 <;> try simp only [bs] at h7
  ·refine bF (aG (bj (ac (ao (zz0 (cp rfl rfl) ?_)))))
   refine zz0 (aa rfl) (ad ?_)
   refine oo (k + 1, rs, qs, gd.set k (-1)) (Front.c Front.nil) (bB 24 rfl) (o := ⟨by omega, ⟨by rw [BM (by assumption)]; exact hrs, by rw [BM (by assumption)]; exact hqs⟩, List.length_set.trans hgl, Hm (f := fun _ => -1) hgl hgm (by omega)⟩)
  ·refine bA (al ?_)
   have hne0 : ((jA l k).es.getD k []).length = 0 := by rw [(uR l k hk).2 k (Nat.le_refl _)]; rfl
   refine ao (zz0 (bI rfl aU ax) ?_)
   refine g7 rfl Tryz.call224 (fun w hw => yp (l.getD k default) w (hIO _ (cZ (by omega)))) rfl (fun V8 => ?_)
   refine zz0 (lI rfl ah) ?_
   refine zz0 (aa rfl) (ad (aD ?_))
   refine bK (ι := Nat × List EdV × List (RV Int)) (fun ⟨j, rs', qs'⟩ => j ≤ (dN (l.getD k default)).length ∧ rs'.map (·.data) = (jr l k (jA l k) j).es ∧ qs'.map (·.data) = (jr l k (jA l k) j).into) (fun _ => (Bg.lessB w [bx] 0)) (fun ⟨j, rs', qs'⟩ => (rowE V8 23 ar (dN (l.getD k default)) :: cellE b5 (aP.enc (l.getD k default)) 36 :: cellE bx [VI, .map (some bm), VE, VG, VB, VV, VM] 228 :: rowE VG 3 bQ (gd.set k (-1)) :: rowE VE 272 gJ rs' :: rowE VQ 224 dE qs' :: (rs'.map (rvE 274 eP) ++ (qs'.map (rvE 3 bQ) ++ [])))) (fun ⟨j, rs', qs'⟩ => [(65, .int .i64 (j : Nat))]) (fun ⟨j, rs', qs'⟩ => (dN (l.getD k default)).length - j) (0, rs, qs) ⟨Nat.zero_le _, hrs, hqs⟩ (Front.c Front.nil) (by repeat' (first | exact Pick.refl _ | exact Del.here _ | apply Pick.cons | apply Del.there | apply Pick.skip | exact Pick.nil _)) rfl (fun i hi m hm => ?_)
   obtain ⟨j, rs', qs'⟩ := i
   replace hi : j ≤ (dN (l.getD k default)).length ∧ rs'.map (·.data) = (jr l k (jA l k) j).es ∧ qs'.map (·.data) = (jr l k (jA l k) j).into := hi
   replace hm : m = (dN (l.getD k default)).length - j := hm
   change Tr _ _ (rowE V8 23 ar (dN (l.getD k default)) :: cellE b5 (aP.enc (l.getD k default)) 36 :: cellE bx [VI, .map (some bm), VE, VG, VB, VV, VM] 228 :: rowE VG 3 bQ (gd.set k (-1)) :: rowE VE 272 gJ rs' :: rowE VQ 224 dE qs' :: (rs'.map (rvE 274 eP) ++ (qs'.map (rvE 3 bQ) ++ []))) ([(65, .int .i64 (j : Nat))] ++ _) _
   obtain ⟨hj, hrs', hqs'⟩ := hi
   have hjs0 := jZ (l.getD k default)
   have hrl' : rs'.length = l.length := by have := congrArg List.length hrs'; rw [List.length_map, (o9 (by omega) hco hne0 j (Nat.le_trans hj (jZ _))).1] at this; exact this
   have hql' : qs'.length = l.length := by have := congrArg List.length hqs'; rw [List.length_map, (o9 (by omega) hco hne0 j (Nat.le_trans hj (jZ _))).2.1] at this; exact this
   refine af (zz0 (bP rfl rfl) (ad (al ?_)))
   refine an rfl ?_ ?_ <;> intro h9 <;> try simp only [bs] at h9
   ·refine bA (al (aD (af (zz0 (aa rfl) (zz0 (zz7 rfl rfl ah ae) ?_)))))
    refine zz0 (dY rfl am) ?_
    refine zz0 (ab rfl) (zz0 (ab rfl) (aI (zz0 (aa rfl) (zz0 (bv rfl) ?_))))
    refine zz0 (zz2 (off := 1) (ft := 223) rfl bC rfl j6) ?_
    refine zz0 (kb rfl kO) ?_
    refine zz0 (aa rfl) (zz0 (zT rfl rfl hA ij aL iJ) ?_)
    rw [AV]
    obtain ⟨to, hto⟩ : ∃ to, to = (dT l ((dN (l.getD k default)).getD j default)) := ⟨_, rfl⟩
    rw [← hto]
    refine zz0 (aa rfl) (zz0 (aO rfl rfl) (zz0 (aO rfl rfl) (zz0 (ab rfl) (zz0 (ab rfl) (aI (zz0 (aa rfl) (ad ?_)))))))
    refine an rfl ?_ ?_ <;> intro h10 <;> try simp only [bs] at h10
    ·have hok := o9 (by omega) hco hne0 j (Nat.le_trans hj (jZ _))
     have hdl : (rs'.getD k default).data.length ≤ 2 := by rw [mh hrs' k]; exact Nat.le_trans (hok.2.2.2.2.1 k) (by split <;> (have := jZ (l.getD k default); omega))
     have hdq : (qs'.getD to.toNat default).data.length ≤ 2 * k + j := by rw [mh hqs']; exact hok.2.2.2.2.2.1 _
     have hjs := jZ (l.getD k default)
     have ht1 : (if to < 0 then none else some to).isSome = true := by assumption
     have ht0 : ¬ to < 0 := fun q => by rw [if_pos q] at ht1; simp at ht1
     have htl := (ri l ((dN (l.getD k default)).getD j default)).2
     rw [← hto] at htl
     rw [if_neg ht0, Option.getD_some]
     refine db (ι := Option Addr × Nat) (fun ⟨pe, ce⟩ => True) (fun _ => (Bg.lessB w [bx] 0)) (fun ⟨pe, ce⟩ => (rowE V8 23 ar (dN (l.getD k default)) :: cellE b5 (aP.enc (l.getD k default)) 36 :: cellE bx [VI, .map (some bm), VE, VG, VB, VV, VM] 228 :: rowE VG 3 bQ (gd.set k (-1)) :: rowE VE 272 gJ (rs'.set k ⟨(rs'.getD k default).data ++ [(to, decide ((j : Int) = 0))], pe, ce⟩) :: rowE VQ 224 dE qs' :: ((rs'.set k ⟨(rs'.getD k default).data ++ [(to, decide ((j : Int) = 0))], pe, ce⟩).map (rvE 274 eP) ++ (qs'.map (rvE 3 bQ) ++ [])))) (fun ⟨pe, ce⟩ => []) ?_ (fun i hi => ?_)
     ·skip
      refine zM (A := [rowE V8 23 ar (dN (l.getD k default)), cellE b5 (aP.enc (l.getD k default)) 36, cellE bx [VI, .map (some bm), VE, VG, VB, VV, VM] 228, rowE VG 3 bQ (gd.set k (-1)), rowE VE 272 gJ rs', rowE VQ 224 dE qs']) (f := (rvE 274 eP)) (rs := rs') k (by omega) ?_
      change Tr _ _ ((rvE 274 eP) (rs'.getD k default) :: rowE V8 23 ar (dN (l.getD k default)) :: cellE b5 (aP.enc (l.getD k default)) 36 :: cellE bx [VI, .map (some bm), VE, VG, VB, VV, VM] 228 :: rowE VG 3 bQ (gd.set k (-1)) :: rowE VE 272 gJ rs' :: rowE VQ 224 dE qs' :: ((rs'.eraseIdx k).map (rvE 274 eP) ++ (qs'.map (rvE 3 bQ) ++ []))) _ _
      refine d6 ([cellE bx [VI, .map (some bm), VE, VG, VB, VV, VM] 228]) 20 rfl aS ?_
      refine zz4 0 rfl (aa rfl) ?_
      refine zz4 1 rfl (bv rfl) ?_
      refine zz4 2 rfl (zz2 (off := 2) (ft := 226) rfl bC rfl j5) ?_
      refine zz4 3 rfl (kb rfl Tryz.isAgg226) ?_
      refine zz4 4 rfl (aa rfl) ?_
      refine zz4 5 rfl (aa rfl) ?_
      refine zz4 6 rfl (bv rfl) ?_
      refine zz4 7 rfl (zz2 (off := 2) (ft := 226) rfl bC rfl j5) ?_
      refine zz4 8 rfl (kb rfl Tryz.isAgg226) ?_
      refine zz4 9 rfl (aa rfl) ?_
      refine j7 10 rfl (by kernel_rfl) (bN (eh (bN (bN (eh (eh (bN (bN (eh (bN dC)))))))))) (yf rfl rfl hVE ii jj (by rw [List.length_replicate]; omega)) ?_
      refine zz4 12 rfl (aa rfl) ?_
      refine zz4 13 rfl (aa rfl) ?_
      refine zz4 14 rfl (bD rfl rfl) ?_
      refine zz4 15 rfl (bO (vs := [(0, _), (1, _)]) rfl rfl (sB _ _)) ?_
      refine dx [11, 16] (fun iq hq => ?_)
      rcases List.mem_cons.1 hq with rfl | hq
      ·skip
       refine bJ rfl ?_
       refine zz0 (dY (V := VE) (E := gJ) (l := rs') (i := k) rfl Tryz.isAgg272) ?_
       refine cg ?_
       refine dx [16] (fun iq hq => ?_)
       obtain rfl := List.mem_singleton.1 hq
       refine bJ rfl ?_
       refine js (E := eP) (to, decide ((j : Int) = 0)) rfl rfl gp ji k6 (fun V11 => ?_)
       refine cg ?_
       refine dx [17] (fun iq hq => ?_)
       obtain rfl := List.mem_singleton.1 hq
       refine bJ rfl ?_
       refine zz1 rfl rfl gp sY (fun V12 => ?_)
       refine dw (.head _) (fun pe ce hpv => ?_)
       subst hpv
       refine cg ?_
       refine j7 18 rfl (by kernel_rfl) (bN (eh (bN (bN (eh (eh (bN (bN (eh (bN dC)))))))))) (yf rfl rfl hVE ii jj (by rw [List.length_replicate]; omega)) ?_
       refine dx [19] (fun iq hq => ?_)
       obtain rfl := List.mem_singleton.1 hq
       refine bJ rfl ?_
       refine gh (l := rs') (i := k) (⟨(rs'.getD k default).data ++ [(to, decide ((j : Int) = 0))], pe, ce⟩) rfl rfl jj ?_
       have hls13 : (List.set rs' (k) (⟨(rs'.getD k default).data ++ [(to, decide ((j : Int) = 0))], pe, ce⟩)).length = (rs').length := List.length_set
       refine xX (A := [rowE V8 23 ar (dN (l.getD k default)), cellE b5 (aP.enc (l.getD k default)) 36, cellE bx [VI, .map (some bm), VE, VG, VB, VV, VM] 228, rowE VG 3 bQ (gd.set k (-1)), rowE VE 272 gJ (rs'.set k ⟨(rs'.getD k default).data ++ [(to, decide ((j : Int) = 0))], pe, ce⟩), rowE VQ 224 dE qs']) (f := (rvE 274 eP)) (rs := rs') k ⟨(rs'.getD k default).data ++ [(to, decide ((j : Int) = 0))], pe, ce⟩ (by omega) ?_
       change Tr _ _ (rowE V8 23 ar (dN (l.getD k default)) :: cellE b5 (aP.enc (l.getD k default)) 36 :: cellE bx [VI, .map (some bm), VE, VG, VB, VV, VM] 228 :: rowE VG 3 bQ (gd.set k (-1)) :: rowE VE 272 gJ (rs'.set k ⟨(rs'.getD k default).data ++ [(to, decide ((j : Int) = 0))], pe, ce⟩) :: rowE VQ 224 dE qs' :: ((rs'.set k ⟨(rs'.getD k default).data ++ [(to, decide ((j : Int) = 0))], pe, ce⟩).map (rvE 274 eP) ++ (qs'.map (rvE 3 bQ) ++ []))) _ _
       refine cg ?_
       refine iT ?_
       refine ac ?_
       apply ed (pe, ce)
       ·exact rfl
       ·exact Front.nil
       ·exact bB 19 rfl
       ·exact (Pick.refl _)
       ·exact trivial
      obtain rfl := List.mem_singleton.1 hq
      refine bJ rfl ?_
      refine js (E := eP) (to, decide ((j : Int) = 0)) rfl rfl gp ji k6 (fun V14 => ?_)
      refine cg ?_
      refine dx [11] (fun iq hq => ?_)
      obtain rfl := List.mem_singleton.1 hq
      refine bJ rfl ?_
      refine zz0 (dY (V := VE) (E := gJ) (l := rs') (i := k) rfl Tryz.isAgg272) ?_
      refine cg ?_
      refine dx [17] (fun iq hq => ?_)
      obtain rfl := List.mem_singleton.1 hq
      refine bJ rfl ?_
      refine zz1 rfl rfl gp sY (fun V15 => ?_)
      refine dw (.head _) (fun pe ce hpv => ?_)
      subst hpv
      refine cg ?_
      refine j7 18 rfl (by kernel_rfl) (bN (eh (bN (bN (eh (eh (bN (bN (eh (bN dC)))))))))) (yf rfl rfl hVE ii jj (by rw [List.length_replicate]; omega)) ?_
      refine dx [19] (fun iq hq => ?_)
      obtain rfl := List.mem_singleton.1 hq
      refine bJ rfl ?_
      refine gh (l := rs') (i := k) (⟨(rs'.getD k default).data ++ [(to, decide ((j : Int) = 0))], pe, ce⟩) rfl rfl jj ?_
      have hls16 : (List.set rs' (k) (⟨(rs'.getD k default).data ++ [(to, decide ((j : Int) = 0))], pe, ce⟩)).length = (rs').length := List.length_set
      refine xX (A := [rowE V8 23 ar (dN (l.getD k default)), cellE b5 (aP.enc (l.getD k default)) 36, cellE bx [VI, .map (some bm), VE, VG, VB, VV, VM] 228, rowE VG 3 bQ (gd.set k (-1)), rowE VE 272 gJ (rs'.set k ⟨(rs'.getD k default).data ++ [(to, decide ((j : Int) = 0))], pe, ce⟩), rowE VQ 224 dE qs']) (f := (rvE 274 eP)) (rs := rs') k ⟨(rs'.getD k default).data ++ [(to, decide ((j : Int) = 0))], pe, ce⟩ (by omega) ?_
      change Tr _ _ (rowE V8 23 ar (dN (l.getD k default)) :: cellE b5 (aP.enc (l.getD k default)) 36 :: cellE bx [VI, .map (some bm), VE, VG, VB, VV, VM] 228 :: rowE VG 3 bQ (gd.set k (-1)) :: rowE VE 272 gJ (rs'.set k ⟨(rs'.getD k default).data ++ [(to, decide ((j : Int) = 0))], pe, ce⟩) :: rowE VQ 224 dE qs' :: ((rs'.set k ⟨(rs'.getD k default).data ++ [(to, decide ((j : Int) = 0))], pe, ce⟩).map (rvE 274 eP) ++ (qs'.map (rvE 3 bQ) ++ []))) _ _
      refine cg ?_
      refine iT ?_
      refine ac ?_
      apply ed (pe, ce)
      ·exact rfl
      ·exact Front.nil
      ·exact bB 19 rfl
      ·exact (Pick.refl _)
      ·exact trivial
     ·obtain ⟨pe, ce⟩ := i
      replace hi : True := hi
      change Tr _ _ (rowE V8 23 ar (dN (l.getD k default)) :: cellE b5 (aP.enc (l.getD k default)) 36 :: cellE bx [VI, .map (some bm), VE, VG, VB, VV, VM] 228 :: rowE VG 3 bQ (gd.set k (-1)) :: rowE VE 272 gJ (rs'.set k ⟨(rs'.getD k default).data ++ [(to, decide ((j : Int) = 0))], pe, ce⟩) :: rowE VQ 224 dE qs' :: ((rs'.set k ⟨(rs'.getD k default).data ++ [(to, decide ((j : Int) = 0))], pe, ce⟩).map (rvE 274 eP) ++ (qs'.map (rvE 3 bQ) ++ []))) ([] ++ _) _
      refine E7 (A := [rowE V8 23 ar (dN (l.getD k default)), cellE b5 (aP.enc (l.getD k default)) 36, cellE bx [VI, .map (some bm), VE, VG, VB, VV, VM] 228, rowE VG 3 bQ (gd.set k (-1)), rowE VE 272 gJ (rs'.set k ⟨(rs'.getD k default).data ++ [(to, decide ((j : Int) = 0))], pe, ce⟩), rowE VQ 224 dE qs']) (B := (rs'.set k ⟨(rs'.getD k default).data ++ [(to, decide ((j : Int) = 0))], pe, ce⟩).map (rvE 274 eP)) (f := (rvE 3 bQ)) (rs := qs') to.toNat (by omega) ?_
      change Tr _ _ ((rvE 3 bQ) (qs'.getD to.toNat default) :: rowE V8 23 ar (dN (l.getD k default)) :: cellE b5 (aP.enc (l.getD k default)) 36 :: cellE bx [VI, .map (some bm), VE, VG, VB, VV, VM] 228 :: rowE VG 3 bQ (gd.set k (-1)) :: rowE VE 272 gJ (rs'.set k ⟨(rs'.getD k default).data ++ [(to, decide ((j : Int) = 0))], pe, ce⟩) :: rowE VQ 224 dE qs' :: ((rs'.set k ⟨(rs'.getD k default).data ++ [(to, decide ((j : Int) = 0))], pe, ce⟩).map (rvE 274 eP) ++ ((qs'.eraseIdx to.toNat).map (rvE 3 bQ) ++ []))) _ _
      refine ao (zz0 (aa rfl) (zz0 (aa rfl) (zz0 (aa rfl) (zz0 (aa rfl) (zz0 (jt rfl rfl gr eI) ?_)))))
      refine zz0 (dY rfl gm) ?_
      refine zz0 (aa rfl) ?_
      refine js (E := bQ) (k : Int) rfl rfl cQ aC iJ (fun V17 => ?_)
      refine zz1 rfl rfl cQ kl (fun V18 => ?_)
      refine dw (.head _) (fun pq cq hpv => ?_)
      subst hpv
      refine zz0 (jt rfl rfl gr eI) ?_
      refine gh (l := qs') (i := to.toNat) (⟨(qs'.getD to.toNat default).data ++ [(k : Int)], pq, cq⟩) rfl rfl eI ?_
      have hls19 : (List.set qs' (to.toNat) (⟨(qs'.getD to.toNat default).data ++ [(k : Int)], pq, cq⟩)).length = (qs').length := List.length_set
      refine E6 (A := [rowE V8 23 ar (dN (l.getD k default)), cellE b5 (aP.enc (l.getD k default)) 36, cellE bx [VI, .map (some bm), VE, VG, VB, VV, VM] 228, rowE VG 3 bQ (gd.set k (-1)), rowE VE 272 gJ (rs'.set k ⟨(rs'.getD k default).data ++ [(to, decide ((j : Int) = 0))], pe, ce⟩), rowE VQ 224 dE (qs'.set to.toNat ⟨(qs'.getD to.toNat default).data ++ [(k : Int)], pq, cq⟩)]) (B := (rs'.set k ⟨(rs'.getD k default).data ++ [(to, decide ((j : Int) = 0))], pe, ce⟩).map (rvE 274 eP)) (f := (rvE 3 bQ)) (rs := qs') to.toNat ⟨(qs'.getD to.toNat default).data ++ [(k : Int)], pq, cq⟩ (by omega) ?_
      change Tr _ _ (rowE V8 23 ar (dN (l.getD k default)) :: cellE b5 (aP.enc (l.getD k default)) 36 :: cellE bx [VI, .map (some bm), VE, VG, VB, VV, VM] 228 :: rowE VG 3 bQ (gd.set k (-1)) :: rowE VE 272 gJ (rs'.set k ⟨(rs'.getD k default).data ++ [(to, decide ((j : Int) = 0))], pe, ce⟩) :: rowE VQ 224 dE (qs'.set to.toNat ⟨(qs'.getD to.toNat default).data ++ [(k : Int)], pq, cq⟩) :: ((rs'.set k ⟨(rs'.getD k default).data ++ [(to, decide ((j : Int) = 0))], pe, ce⟩).map (rvE 274 eP) ++ ((qs'.set to.toNat ⟨(qs'.getD to.toNat default).data ++ [(k : Int)], pq, cq⟩).map (rvE 3 bQ) ++ []))) _ _
      refine aB (aX (ac (ao (zz0 (cp rfl rfl) ?_))))
      refine zz0 (aa rfl) (ad ?_)
      refine oo (j + 1, (rs'.set k ⟨(rs'.getD k default).data ++ [(to, decide ((j : Int) = 0))], pe, ce⟩), (qs'.set to.toNat ⟨(qs'.getD to.toNat default).data ++ [(k : Int)], pq, cq⟩)) (Front.c Front.nil) (bB 31 rfl) (o := ⟨by omega, by rw [wq (by rw [← hto]; exact ht0), ← hto]; exact DK hrs' k _ _ _, by rw [wq (by rw [← hto]; exact ht0), ← hto]; exact DK hqs' _ _ _ _⟩)
    ·refine cd (aX (ac (ao (zz0 (cp rfl rfl) ?_))))
     refine zz0 (aa rfl) (ad ?_)
     have hlt0 : (dT l ((dN (l.getD k default)).getD j default)) < 0 := by
      rw [← hto]
      by_cases q : to < 0
      ·exact q
      ·have ht1 : (if to < 0 then none else some to).isSome = false := by first | assumption | simp_all
       rw [if_neg q] at ht1; simp at ht1
     refine oo (j + 1, rs', qs') (Front.c Front.nil) (bB 21 rfl) (o := ⟨by omega, by rw [zt hlt0]; exact hrs', by rw [zt hlt0]; exact hqs'⟩)
   ·refine bF (aG (aG (bj (aX (ac (ao (zz0 (cp rfl rfl) ?_)))))))
    refine zz0 (aa rfl) (ad ?_)
    have hje : j = (dN (l.getD k default)).length := by omega
    refine oo (k + 1, rs', qs', gd.set k (-1)) (Front.c Front.nil) (bB 30 rfl) (o := ⟨by omega, ⟨by rw [zr (by assumption), ← hje]; exact hrs', by rw [zr (by assumption), ← hje]; exact hqs'⟩, List.length_set.trans hgl, Hm (f := fun _ => -1) hgl hgm (by omega)⟩)
 ·refine bF (aG (aG (bj (ac (al ?_)))))
  obtain rfl : k = l.length := by omega
  refine vz (A := [cellE bx [VI, .map (some bm), VE, VG, VB, VV, VM] 228, rowE VG 3 bQ gd, rowE VE 272 gJ rs, rowE VQ 224 dE qs]) (B := rs.map (rvE 274 eP)) qs (fun F8 hF8 hQ8 => ?_)
  change Tr _ _ (cellE bx [VI, .map (some bm), VE, VG, VB, VV, VM] 228 :: rowE VG 3 bQ gd :: rowE VE 272 gJ rs :: rowE VQ 224 dE qs :: (rs.map (rvE 274 eP) ++ [])) _ _
  refine ki (V := VQ) (T := 224) (E := dE) (l := qs) (.there _ (.there _ (.there _ (.here _)))) (fun F9 hF89 hSQ => ?_)
  have hF9 := hF8.trans hF89
  have hQ9 := hQ8.mono hF89.blk
  have hI9 := hI.mono hF9.blk
  refine ao (zz0 (aa rfl) (zz0 (bv rfl) ?_))
  refine zz0 (zz2 (off := 0) (ft := 50) rfl bC rfl du) ?_
  refine zz0 (kb rfl dH) ?_
  refine zz0 (gx rfl aM) ?_
  refine zz0 (aa rfl) (ad (aD ?_))
  refine bK (ι := Nat × List Int) (fun ⟨k, gd⟩ => k ≤ l.length ∧ gd.length = l.length ∧ (∀ j, j < k → gd.getD j default = mL l e (jA l l.length).into j) ∧ ∀ j, k ≤ j → j < l.length → gd.getD j default = -1) (fun _ => F9) (fun ⟨k, gd⟩ => (cellE bx [VI, .map (some bm), VE, VG, VB, VV, VM] 228 :: rowE VG 3 bQ gd :: rowE VE 272 gJ rs :: (rs.map (rvE 274 eP) ++ []))) (fun ⟨k, gd⟩ => [(116, .int .i64 (k : Nat))]) (fun ⟨k, gd⟩ => l.length - k) (0, gd) ⟨Nat.zero_le _, hgl, fun j hj => absurd hj (Nat.not_lt_zero _), fun j _ hj => hgm j hj⟩ (Front.c Front.nil) (by repeat' (first | exact Pick.refl _ | exact Del.here _ | apply Pick.cons | apply Del.there | apply Pick.skip | exact Pick.nil _)) rfl (fun i hi m hm => ?_)
  obtain ⟨k, gd⟩ := i
  replace hi : k ≤ l.length ∧ gd.length = l.length ∧ (∀ j, j < k → gd.getD j default = mL l e (jA l l.length).into j) ∧ ∀ j, k ≤ j → j < l.length → gd.getD j default = -1 := hi
  replace hm : m = l.length - k := hm
  change Tr _ _ (cellE bx [VI, .map (some bm), VE, VG, VB, VV, VM] 228 :: rowE VG 3 bQ gd :: rowE VE 272 gJ rs :: (rs.map (rvE 274 eP) ++ [])) ([(116, .int .i64 (k : Nat))] ++ _) _
  obtain ⟨hk2, hgl2, hgm2, hgm3⟩ := hi
  refine af (zz0 (bP rfl rfl) (ad (al ?_)))
  refine an rfl ?_ ?_ <;> intro h20 <;> try simp only [bs] at h20
  ·refine bA (al (aD (af (zz0 (aa rfl) (zz0 (gK rfl rfl aM ax) ?_)))))
   refine zz0 (mE rfl aU ax) ?_
   refine dD bY rfl (fun b21 => ?_)
   refine zz0 (ab rfl) (aF aP rfl rfl ax ?_)
   refine ad (al ?_)
   have hqk : Sl F9.blk bQ (qs.getD k default).data (.slice (qs.getD k default).dp (qs.getD k default).data.length (qs.getD k default).dc) := hQ9 _ (cZ (by omega))
   have hib : ∀ x ∈ (qs.getD k default).data, 0 ≤ x ∧ x < (l.length : Int) := fun x hx => by
    rw [mh hqs k] at hx
    exact (rm l (Nat.le_refl _)).i _ (getD_mem hx) x hx
   refine gQ aS ?_
   refine aw (zz2 (off := 2) (ft := 3) rfl aj rfl aC) ?_
   refine aw (aJ rfl aN) ?_
   refine aw (bD rfl rfl) (aw (aa rfl) ?_)
   apply e8
   ·exact (rfl : _ = (3, 124, 127))
   ·exact rfl
   ·intro hT22; have hT22' := hT22
    try simp only [bs] at hT22'
    refine bS hT22 (bI rfl aU ax) ?_
    refine bS hT22 (aA rfl kg (fun w hw => kc _ w (hIO _ (cZ (by omega))))) ?_
    refine aw (aQ rfl hT22 rfl) ?_
    exact cT (Sub.cons rfl (zz9 3 rfl))
   ·intro hF22
    refine bR hF22 (bR hF22 (aw (aR rfl hF22 rfl) ?_))
    exact cT (Sub.cons rfl (zz9 3 rfl))
   refine aw (aa rfl) ?_
   apply e8
   ·exact (rfl : _ = (12, 128, 140))
   ·exact rfl
   ·intro hT23; have hT23' := hT23
    try simp only [bs] at hT23'
    refine bS hT23 (zz2 (off := 0) (ft := 23) rfl aj rfl ae) ?_
    refine bS hT23 (aJ rfl am) ?_
    refine bS hT23 (aa rfl) (bS hT23 (bv rfl) ?_)
    refine bS hT23 (zz2 (off := 0) (ft := 50) rfl bC rfl du) ?_
    refine bS hT23 (kb rfl dH) ?_
    refine bS hT23 (aa rfl) (bS hT23 (gK rfl rfl aM ax) ?_)
    refine bS hT23 (zz2 (off := 0) (ft := 23) rfl aj rfl ae) ?_
    refine bS hT23 (oy rfl am) ?_
    refine bS hT23 (jG rfl rfl) ?_
    refine aw (aQ rfl hT23 rfl) ?_
    exact cT (Sub.cons rfl (zz9 12 rfl))
   ·intro hF23
    refine bR hF23 (bR hF23 (bR hF23 (bR hF23 (bR hF23 (bR hF23 (bR hF23 (bR hF23 (bR hF23 (bR hF23 (bR hF23 (aw (aR rfl hF23 rfl) ?_)))))))))))
    exact cT (Sub.cons rfl (zz9 12 rfl))
   refine aw (aa rfl) ?_
   apply e8
   ·exact (rfl : _ = (7, 141, 148))
   ·exact rfl
   ·intro hT24; have hT24' := hT24
    try simp only [bs] at hT24'
    refine bS hT24 (aa rfl) (bS hT24 (aa rfl) (bS hT24 (gK rfl rfl gr eI) ?_))
    refine bS hT24 (jx rfl gm) ?_
    refine bS hT24 (gx rfl cQ) ?_
    refine bS hT24 (bD rfl rfl) (aw (aQ rfl hT24 rfl) ?_)
    exact cT (Sub.cons rfl (zz9 7 rfl))
   ·intro hF24
    refine bR hF24 (bR hF24 (bR hF24 (bR hF24 (bR hF24 (bR hF24 (aw (aR rfl hF24 rfl) ?_))))))
    exact cT (Sub.cons rfl (zz9 7 rfl))
   refine aw (aa rfl) ?_
   apply e8
   ·exact (rfl : _ = (14, 149, 163))
   ·exact rfl
   ·intro hT25; have hT25' := hT25
    try simp only [bs] at hT25'
    have hx0 := hib _ (cZ (k := 0) (by omega))
    refine bS hT25 (aa rfl) (bS hT25 (bv rfl) ?_)
    refine bS hT25 (zz2 (off := 0) (ft := 50) rfl bC rfl du) ?_
    refine bS hT25 (kb rfl dH) ?_
    refine bS hT25 (aa rfl) (bS hT25 (aa rfl) (bS hT25 (gK rfl rfl gr eI) ?_))
    refine bS hT25 (jx rfl gm) ?_
    refine bS hT25 (yg (i := 0) rfl rfl hqk cQ aC (by rfl) (by omega)) ?_
    refine bS hT25 (jx rfl aN) ?_
    refine bS hT25 (ll rfl rfl aM ax) ?_
    refine bS hT25 (mE rfl aU ax) ?_
    refine bS hT25 (aA rfl Tryz.call225 (fun w hw => sP _ w (hIO _ (cZ (by omega))))) ?_
    refine aw (aQ rfl hT25 rfl) ?_
    exact cT (Sub.cons rfl (zz9 14 rfl))
   ·intro hF25
    refine bR hF25 (bR hF25 (bR hF25 (bR hF25 (bR hF25 (bR hF25 (bR hF25 (bR hF25 (bR hF25 (bR hF25 (bR hF25 (bR hF25 (bR hF25 (aw (aR rfl hF25 rfl) ?_)))))))))))))
    exact cT (Sub.cons rfl (zz9 14 rfl))
   refine bH ?_
   refine ac ?_
   refine an rfl ?_ ?_ <;> intro h26 <;> try simp only [bs] at h26
   ·have hgq := h26
    refine fG 0 12 aS ?_
    refine bG ?_
    refine aw (aa rfl) (aw (bv rfl) ?_)
    refine aw (zz2 (off := 3) (ft := 224) rfl bC rfl eI) ?_
    refine aw (kb rfl gm) ?_
    refine aw (aa rfl) (aw (aa rfl) (aw (aa rfl) (aw (gK rfl rfl gr eI) ?_)))
    refine aw (jx rfl gm) ?_
    refine aw (yg (i := 0) rfl rfl hqk cQ aC (by rfl) (by omega)) ?_
    refine aw (jx rfl aN) ?_
    refine aw (zz7 rfl rfl cQ aC) ?_
    refine bH ?_
    refine gh (l := gd) (i := k) (((qs.getD k default).data.getD 0 default)) rfl rfl aC ?_
    have hls27 : (List.set gd (k) (((qs.getD k default).data.getD 0 default))).length = (gd).length := List.length_set
    refine aB (aX (ac (ao (zz0 (cp rfl rfl) ?_))))
    refine zz0 (aa rfl) (ad ?_)
    have hgv : mL l e (jA l l.length).into k = ((qs.getD k default).data.getD 0 default) := by
     unfold mL
     rw [← mh hqs k]
     exact if_pos ⟨hgq.1.1.1.1, hgq.1.1.1.2, hgq.1.1.2, by omega, hgq.2⟩
    have hgy := Hm (n := l.length) hgl2 hgm2 (by omega)
    rw [hgv] at hgy
    refine oo (k + 1, gd.set k ((qs.getD k default).data.getD 0 default)) (Front.c Front.nil) (bB 32 rfl) (o := ⟨by omega, List.length_set.trans hgl2, hgy, H4 hgm3⟩)
   ·have hgq := h26
    refine cd (aX (ac (ao (zz0 (cp rfl rfl) ?_))))
    refine zz0 (aa rfl) (ad ?_)
    have hgv : mL l e (jA l l.length).into k = -1 := by
     unfold mL
     rw [← mh hqs k]
     refine if_neg (fun hq => ?_)
     rcases hgq with (((q | q) | q) | q) | q
     ·exact q hq.1
     ·exact q hq.2.1
     ·exact hq.2.2.1 q
     ·exact q (by omega)
     ·rw [hq.2.2.2.2] at q; cases q
    refine oo (k + 1, gd) (Front.c Front.nil) (bB 20 rfl) (o := ⟨by omega, hgl2, H5 hgl2 hgm2 ((hgm3 k (Nat.le_refl _) (by omega)).trans hgv.symm), fun j h1 h2 => hgm3 j (by omega) h2⟩)
  ·refine bF (aG (aG (bj ?_)))
   refine fq Tryz.results161 (fun w' hw => ?_)
   have hgg := CS hgl2 (fun j hj => hgm2 j (by omega))
   rw [hgg, List.append_nil] at hw
   exact ⟨(VE, VG, rs), rfl, hw.upd hF9 (by repeat' (first | exact Pick.refl _ | exact Del.here _ | apply Pick.cons | apply Del.there | apply Pick.skip | exact Pick.nil _)), hrs⟩
end Go.Proofs.YtiajjbhcpeadfaaGreat
namespace Go.Proofs.YtiajjbhcpeadfaaGreat
open Go Go.HL Go.RowKit
theorem AB (l : List Bool) (V : Value) (a : Bool) (w : World) (hV : Sl (hp w) cD l V) :
  Calls Tryz.prog 163 #[V, .bool a] w (fun e w' => e = .returned (.int .i64 (dW (fun x => decide (a = x)) 0 l)) ∧ Ext w w') := by
 have hV' : Sl (Bg.of w).blk cD l V := hV
 have hlV := hV'.len_le
 refine enter Tryz.func163 rfl Tryz.ntmps163 rfl ?_
 refine af (zz0 (ab rfl) (ad (al (af (zz0 (aa rfl) (zz0 (gx rfl eF) ?_))))))
 refine zz0 (aa rfl) (ad (aD ?_))
 refine bK (ι := Nat) (fun k => k ≤ l.length ∧ dW (fun x => decide (a = x)) k (l.drop k) = dW (fun x => decide (a = x)) 0 l) (fun _ => _) (fun k => []) (fun k => [(8, .int .i64 (k : Nat))]) (fun k => l.length - k) 0 ⟨Nat.zero_le _, rfl⟩ (Front.c Front.nil) (by repeat' constructor) rfl (fun k hi m hm => ?_)
 replace hi : k ≤ l.length ∧ dW (fun x => decide (a = x)) k (l.drop k) = dW (fun x => decide (a = x)) 0 l := hi
 replace hm : m = l.length - k := hm
 change Tr _ _ [] ([(8, .int .i64 (k : Nat))] ++ _) _
 obtain ⟨hk1, hk2⟩ := hi
 refine af (zz0 (bP rfl rfl) (ad (al ?_)))
 refine an rfl ?_ ?_ <;> intro h1 <;> try simp only [bs] at h1
 ·refine bA (al (aD (af (zz0 (aa rfl) (zz0 (ab rfl) (aI (zz0 (aa rfl) (zz0 (aa rfl) ?_))))))))
  refine zz0 (aa rfl) (zz0 (gK rfl rfl eF bW) ?_)
  refine zz0 (jx rfl cB) ?_
  refine zz0 (sX rfl rfl Tryz.underlying4) ?_
  refine ad ?_
  refine an rfl ?_ ?_ <;> intro h2 <;> try simp only [bs] at h2
  ·refine af (zz0 (aa rfl) (zz0 (ab rfl) (ad (az (bh (ay (ay (bh (ay ?_)))))))))
   refine aT Tryz.results163 rfl (fun w' hw => ?_)
   exact ⟨by rw [← hk2, drop_cons (k := k) (by omega), dW, if_pos (by simp_all)], hw.b0⟩
  ·refine cd (aX (ac (ao (zz0 (cp rfl rfl) ?_))))
   refine zz0 (aa rfl) (ad ?_)
   refine cC (k + 1) (Front.c Front.nil) (bB 12 rfl) (o := ⟨by omega, by rw [← hk2, drop_cons (k := k) (by omega), dW, if_neg (by simp_all)]⟩)
 ·refine bF (aG (aG (bj (ac (af (zz0 (ab rfl) (ad (az ?_))))))))
  refine aT Tryz.results163 rfl (fun w' hw => ?_)
  exact ⟨by rw [← hk2, List.drop_of_length_le (by omega)]; rfl, hw.b0⟩
theorem zH (l : List Ins) (entry : UInt32) (rounds : Nat) (V : Value) (w : World) (hI : Sl (hp w) aP l V) (hIO : ∀ x ∈ l, InsOK x) (hrd : rounds ≤ 100000) :
  Calls Tryz.prog 107 #[V, .int .u32 entry.toNat, .int .i64 (rounds : Nat)] w (fun e w' => ∃ V : Value, e = .returned (.tuple #[V, .int .i64 (eH l entry rounds).2]) ∧ Below w.heap.size w w' ∧ NewEnts w w' [rowE V 37 cH (eH l entry rounds).1]) := by
 obtain ⟨pV, cV, hvp, _⟩ := hI.shape
 subst hvp
 have hI0 : Sl (Bg.of0 w).blk aP l (.slice pV l.length cV) := hI
 have hlI := hI0.len_le
 refine lZ Tryz.func107 rfl Tryz.ntmps107 rfl ?_
 refine af (zz0 (ab rfl) (zz0 (ab rfl) (ad (al (af (zz0 (aa rfl) (zz0 (gx rfl aM) ?_)))))))
 refine zz0 (eo rfl rfl) (ad ?_)
 refine an rfl ?_ ?_ <;> intro h1 <;> try simp only [bs] at h1
 ·refine al (cj 37 cH ?_)
  refine ao (zz0 (ab rfl) (zz0 (ab rfl) (ad (az (ay ?_)))))
  refine df kC rfl rfl (fun w' hw => ?_)
  have e : eH l entry rounds = ([], 6) := if_pos (by omega)
  refine ⟨.slice none 0 0, by rw [e], hw.below0 (Bg.le.refl _), by rw [e]; exact hw.ents0 rfl (by repeat' constructor)⟩
 ·refine bA ?_
  refine db (ι := Nat × Nat × Nat × Nat) (fun ⟨bm, bvv, bww, bq⟩ => True) (fun _ => (Bg.of0 w)) (fun ⟨bm, bvv, bww, bq⟩ => [cellE bq [(.slice pV l.length cV), .map (some bm), .slice none 0 0, .slice none 0 0, .slice none 0 0, .slice (some ⟨bvv, 0, none⟩) (List.replicate l.length (0 : Int)).length l.length, .slice (some ⟨bww, 0, none⟩) (List.replicate l.length false).length l.length] 228, mapE bm iu [], rowE (.slice (some ⟨bvv, 0, none⟩) (List.replicate l.length (0 : Int)).length l.length) 3 bQ (List.replicate l.length 0), rowE (.slice (some ⟨bww, 0, none⟩) (List.replicate l.length false).length l.length) 4 cD (List.replicate l.length false)]) (fun ⟨bm, bvv, bww, bq⟩ => [(8, .pointer (some ⟨bq, 0, none⟩))]) ?_ (fun i hi => ?_)
  ·skip
   refine d6 ([]) 11 rfl aS ?_
   refine zz4 0 rfl (aa rfl) ?_
   refine zz4 2 rfl (aa rfl) ?_
   refine BV 3 rfl (by kernel_rfl) (bN dC) rfl aM ?_
   refine zz4 5 rfl (aa rfl) ?_
   refine BV 6 rfl (by kernel_rfl) (bN dC) rfl aM ?_
   refine dx [1, 4, 7] (fun iq hq => ?_)
   rcases List.mem_cons.1 hq with rfl | hq
   ·skip
    refine bJ rfl ?_
    refine gG iu rfl (fun bm => ?_)
    refine cg ?_
    refine dx [4, 7] (fun iq hq => ?_)
    rcases List.mem_cons.1 hq with rfl | hq
    ·skip
     refine bJ rfl ?_
     refine jo (E := bQ) 0 rfl rfl cQ kl rfl rfl rfl (by constructor <;> omega) rfl (fun bvv => ?_)
     refine cg ?_
     refine dx [7] (fun iq hq => ?_)
     obtain rfl := List.mem_singleton.1 hq
     refine bJ rfl ?_
     refine jo (E := cD) false rfl rfl eF nD rfl rfl rfl (by constructor <;> omega) rfl (fun bww => ?_)
     refine cg ?_
     refine j7 8 rfl (by kernel_rfl) (bN dC) (bO (vs := [(0, _), (1, _), (5, _), (6, _)]) (cs := #[(.slice pV l.length cV), .map (some bm), .slice none 0 0, .slice none 0 0, .slice none 0 0, .slice (some ⟨bvv, 0, none⟩) (List.replicate l.length (0 : Int)).length l.length, .slice (some ⟨bww, 0, none⟩) (List.replicate l.length false).length l.length]) rfl rfl (by kernel_rfl)) ?_
     refine dx [9] (fun iq hq => ?_)
     obtain rfl := List.mem_singleton.1 hq
     refine bJ rfl ?_
     refine dJ (cs := [(.slice pV l.length cV), .map (some bm), .slice none 0 0, .slice none 0 0, .slice none 0 0, .slice (some ⟨bvv, 0, none⟩) (List.replicate l.length (0 : Int)).length l.length, .slice (some ⟨bww, 0, none⟩) (List.replicate l.length false).length l.length]) rfl rfl (fun bq => ?_)
     refine cg ?_
     refine zz4 10 rfl (ab rfl) ?_
     refine iT ?_
     refine ac ?_
     refine cw (_, _, _, _) (Front.c Front.nil) (bB 11 rfl) (o := trivial)
    obtain rfl := List.mem_singleton.1 hq
    refine bJ rfl ?_
    refine jo (E := cD) false rfl rfl eF nD rfl rfl rfl (by constructor <;> omega) rfl (fun bww => ?_)
    refine cg ?_
    refine dx [4] (fun iq hq => ?_)
    obtain rfl := List.mem_singleton.1 hq
    refine bJ rfl ?_
    refine jo (E := bQ) 0 rfl rfl cQ kl rfl rfl rfl (by constructor <;> omega) rfl (fun bvv => ?_)
    refine cg ?_
    refine j7 8 rfl (by kernel_rfl) (bN dC) (bO (vs := [(0, _), (1, _), (5, _), (6, _)]) (cs := #[(.slice pV l.length cV), .map (some bm), .slice none 0 0, .slice none 0 0, .slice none 0 0, .slice (some ⟨bvv, 0, none⟩) (List.replicate l.length (0 : Int)).length l.length, .slice (some ⟨bww, 0, none⟩) (List.replicate l.length false).length l.length]) rfl rfl (by kernel_rfl)) ?_
    refine dx [9] (fun iq hq => ?_)
    obtain rfl := List.mem_singleton.1 hq
    refine bJ rfl ?_
    refine dJ (cs := [(.slice pV l.length cV), .map (some bm), .slice none 0 0, .slice none 0 0, .slice none 0 0, .slice (some ⟨bvv, 0, none⟩) (List.replicate l.length (0 : Int)).length l.length, .slice (some ⟨bww, 0, none⟩) (List.replicate l.length false).length l.length]) rfl rfl (fun bq => ?_)
    refine cg ?_
    refine zz4 10 rfl (ab rfl) ?_
    refine iT ?_
    refine ac ?_
    refine cw (_, _, _, _) (Front.c Front.nil) (bB 11 rfl) (o := trivial)
   rcases List.mem_cons.1 hq with rfl | hq
   ·skip
    refine bJ rfl ?_
    refine jo (E := bQ) 0 rfl rfl cQ kl rfl rfl rfl (by constructor <;> omega) rfl (fun bvv => ?_)
    refine cg ?_
    refine dx [1, 7] (fun iq hq => ?_)
    rcases List.mem_cons.1 hq with rfl | hq
    ·skip
     refine bJ rfl ?_
     refine gG iu rfl (fun bm => ?_)
     refine cg ?_
     refine dx [7] (fun iq hq => ?_)
     obtain rfl := List.mem_singleton.1 hq
     refine bJ rfl ?_
     refine jo (E := cD) false rfl rfl eF nD rfl rfl rfl (by constructor <;> omega) rfl (fun bww => ?_)
     refine cg ?_
     refine j7 8 rfl (by kernel_rfl) (bN dC) (bO (vs := [(0, _), (1, _), (5, _), (6, _)]) (cs := #[(.slice pV l.length cV), .map (some bm), .slice none 0 0, .slice none 0 0, .slice none 0 0, .slice (some ⟨bvv, 0, none⟩) (List.replicate l.length (0 : Int)).length l.length, .slice (some ⟨bww, 0, none⟩) (List.replicate l.length false).length l.length]) rfl rfl (by kernel_rfl)) ?_
     refine dx [9] (fun iq hq => ?_)
     obtain rfl := List.mem_singleton.1 hq
     refine bJ rfl ?_
     refine dJ (cs := [(.slice pV l.length cV), .map (some bm), .slice none 0 0, .slice none 0 0, .slice none 0 0, .slice (some ⟨bvv, 0, none⟩) (List.replicate l.length (0 : Int)).length l.length, .slice (some ⟨bww, 0, none⟩) (List.replicate l.length false).length l.length]) rfl rfl (fun bq => ?_)
     refine cg ?_
     refine zz4 10 rfl (ab rfl) ?_
     refine iT ?_
     refine ac ?_
     refine cw (_, _, _, _) (Front.c Front.nil) (bB 11 rfl) (o := trivial)
    obtain rfl := List.mem_singleton.1 hq
    refine bJ rfl ?_
    refine jo (E := cD) false rfl rfl eF nD rfl rfl rfl (by constructor <;> omega) rfl (fun bww => ?_)
    refine cg ?_
    refine dx [1] (fun iq hq => ?_)
    obtain rfl := List.mem_singleton.1 hq
    refine bJ rfl ?_
    refine gG iu rfl (fun bm => ?_)
    refine cg ?_
    refine j7 8 rfl (by kernel_rfl) (bN dC) (bO (vs := [(0, _), (1, _), (5, _), (6, _)]) (cs := #[(.slice pV l.length cV), .map (some bm), .slice none 0 0, .slice none 0 0, .slice none 0 0, .slice (some ⟨bvv, 0, none⟩) (List.replicate l.length (0 : Int)).length l.length, .slice (some ⟨bww, 0, none⟩) (List.replicate l.length false).length l.length]) rfl rfl (by kernel_rfl)) ?_
    refine dx [9] (fun iq hq => ?_)
    obtain rfl := List.mem_singleton.1 hq
    refine bJ rfl ?_
    refine dJ (cs := [(.slice pV l.length cV), .map (some bm), .slice none 0 0, .slice none 0 0, .slice none 0 0, .slice (some ⟨bvv, 0, none⟩) (List.replicate l.length (0 : Int)).length l.length, .slice (some ⟨bww, 0, none⟩) (List.replicate l.length false).length l.length]) rfl rfl (fun bq => ?_)
    refine cg ?_
    refine zz4 10 rfl (ab rfl) ?_
    refine iT ?_
    refine ac ?_
    refine cw (_, _, _, _) (Front.c Front.nil) (bB 11 rfl) (o := trivial)
   obtain rfl := List.mem_singleton.1 hq
   refine bJ rfl ?_
   refine jo (E := cD) false rfl rfl eF nD rfl rfl rfl (by constructor <;> omega) rfl (fun bww => ?_)
   refine cg ?_
   refine dx [1, 4] (fun iq hq => ?_)
   rcases List.mem_cons.1 hq with rfl | hq
   ·skip
    refine bJ rfl ?_
    refine gG iu rfl (fun bm => ?_)
    refine cg ?_
    refine dx [4] (fun iq hq => ?_)
    obtain rfl := List.mem_singleton.1 hq
    refine bJ rfl ?_
    refine jo (E := bQ) 0 rfl rfl cQ kl rfl rfl rfl (by constructor <;> omega) rfl (fun bvv => ?_)
    refine cg ?_
    refine j7 8 rfl (by kernel_rfl) (bN dC) (bO (vs := [(0, _), (1, _), (5, _), (6, _)]) (cs := #[(.slice pV l.length cV), .map (some bm), .slice none 0 0, .slice none 0 0, .slice none 0 0, .slice (some ⟨bvv, 0, none⟩) (List.replicate l.length (0 : Int)).length l.length, .slice (some ⟨bww, 0, none⟩) (List.replicate l.length false).length l.length]) rfl rfl (by kernel_rfl)) ?_
    refine dx [9] (fun iq hq => ?_)
    obtain rfl := List.mem_singleton.1 hq
    refine bJ rfl ?_
    refine dJ (cs := [(.slice pV l.length cV), .map (some bm), .slice none 0 0, .slice none 0 0, .slice none 0 0, .slice (some ⟨bvv, 0, none⟩) (List.replicate l.length (0 : Int)).length l.length, .slice (some ⟨bww, 0, none⟩) (List.replicate l.length false).length l.length]) rfl rfl (fun bq => ?_)
    refine cg ?_
    refine zz4 10 rfl (ab rfl) ?_
    refine iT ?_
    refine ac ?_
    refine cw (_, _, _, _) (Front.c Front.nil) (bB 11 rfl) (o := trivial)
   obtain rfl := List.mem_singleton.1 hq
   refine bJ rfl ?_
   refine jo (E := bQ) 0 rfl rfl cQ kl rfl rfl rfl (by constructor <;> omega) rfl (fun bvv => ?_)
   refine cg ?_
   refine dx [1] (fun iq hq => ?_)
   obtain rfl := List.mem_singleton.1 hq
   refine bJ rfl ?_
   refine gG iu rfl (fun bm => ?_)
   refine cg ?_
   refine j7 8 rfl (by kernel_rfl) (bN dC) (bO (vs := [(0, _), (1, _), (5, _), (6, _)]) (cs := #[(.slice pV l.length cV), .map (some bm), .slice none 0 0, .slice none 0 0, .slice none 0 0, .slice (some ⟨bvv, 0, none⟩) (List.replicate l.length (0 : Int)).length l.length, .slice (some ⟨bww, 0, none⟩) (List.replicate l.length false).length l.length]) rfl rfl (by kernel_rfl)) ?_
   refine dx [9] (fun iq hq => ?_)
   obtain rfl := List.mem_singleton.1 hq
   refine bJ rfl ?_
   refine dJ (cs := [(.slice pV l.length cV), .map (some bm), .slice none 0 0, .slice none 0 0, .slice none 0 0, .slice (some ⟨bvv, 0, none⟩) (List.replicate l.length (0 : Int)).length l.length, .slice (some ⟨bww, 0, none⟩) (List.replicate l.length false).length l.length]) rfl rfl (fun bq => ?_)
   refine cg ?_
   refine zz4 10 rfl (ab rfl) ?_
   refine iT ?_
   refine ac ?_
   refine cw (_, _, _, _) (Front.c Front.nil) (bB 11 rfl) (o := trivial)
  ·obtain ⟨bm, bvv, bww, bq⟩ := i
   replace hi : True := hi
   change Tr _ _ [cellE bq [(.slice pV l.length cV), .map (some bm), .slice none 0 0, .slice none 0 0, .slice none 0 0, .slice (some ⟨bvv, 0, none⟩) (List.replicate l.length (0 : Int)).length l.length, .slice (some ⟨bww, 0, none⟩) (List.replicate l.length false).length l.length] 228, mapE bm iu [], rowE (.slice (some ⟨bvv, 0, none⟩) (List.replicate l.length (0 : Int)).length l.length) 3 bQ (List.replicate l.length 0), rowE (.slice (some ⟨bww, 0, none⟩) (List.replicate l.length false).length l.length) 4 cD (List.replicate l.length false)] ([(8, .pointer (some ⟨bq, 0, none⟩))] ++ _) _
   obtain ⟨VV, hVV⟩ : ∃ V, V = Value.slice (some ⟨bvv, 0, none⟩) (List.replicate l.length (0 : Int)).length l.length := ⟨_, rfl⟩
   obtain ⟨VM, hVM⟩ : ∃ V, V = Value.slice (some ⟨bww, 0, none⟩) (List.replicate l.length false).length l.length := ⟨_, rfl⟩
   rw [← hVV, ← hVM]
   refine al (af (zz0 (aa rfl) (zz0 (gx rfl aM) ?_)))
   refine zz0 (aa rfl) (ad (aD (cj 37 cH ?_)))
   refine bK (ι := Nat × Value) (fun ⟨k, Vb⟩ => k ≤ l.length) (fun _ => _) (fun ⟨k, Vb⟩ => [cellE bq [(.slice pV l.length cV), .map (some bm), .slice none 0 0, .slice none 0 0, Vb, VV, VM] 228, rowE Vb 37 cH (List.replicate k (iQ 8)), mapE bm iu (atK l k), rowE VV 3 bQ (List.replicate l.length 0), rowE VM 4 cD (List.replicate l.length false)]) (fun ⟨k, Vb⟩ => [(32, .int .i64 (k : Nat))]) (fun ⟨k, Vb⟩ => l.length - k) (0, _) (Nat.zero_le _) (Front.c Front.nil) (by repeat' constructor) rfl (fun i hi m hm => ?_)
   obtain ⟨k, Vb⟩ := i
   replace hi : k ≤ l.length := hi
   replace hm : m = l.length - k := hm
   change Tr _ _ [cellE bq [(.slice pV l.length cV), .map (some bm), .slice none 0 0, .slice none 0 0, Vb, VV, VM] 228, rowE Vb 37 cH (List.replicate k (iQ 8)), mapE bm iu (atK l k), rowE VV 3 bQ (List.replicate l.length 0), rowE VM 4 cD (List.replicate l.length false)] ([(32, .int .i64 (k : Nat))] ++ _) _
   have hrk : (List.replicate k (iQ 8)).length = k := List.length_replicate
   refine af (zz0 (bP rfl rfl) (ad (al ?_)))
   refine an rfl ?_ ?_ <;> intro h2 <;> try simp only [bs] at h2
   ·refine bA (al (aD (af (zz0 (aa rfl) (zz0 (gK rfl rfl aM ax) ?_)))))
    refine zz0 (mE rfl aU ax) ?_
    refine dD bY rfl (fun b3 => ?_)
    refine zz0 (ab rfl) (aF aP rfl rfl ax ?_)
    refine ad ?_
    refine db (ι := List (UInt32 × Int)) (fun m1 => m1 = atK l (k + 1)) (fun _ => (Bg.of0 w)) (fun m1 => [cellE b3 (aP.enc (l.getD k default)) 36, cellE bq [(.slice pV l.length cV), .map (some bm), .slice none 0 0, .slice none 0 0, Vb, VV, VM] 228, rowE Vb 37 cH (List.replicate k (iQ 8)), mapE bm iu m1, rowE VV 3 bQ (List.replicate l.length 0), rowE VM 4 cD (List.replicate l.length false)]) (fun m1 => []) ?_ (fun m1 hi => ?_)
    ·skip
     refine al (gQ aS ?_)
     refine aw (aa rfl) (aw (bv rfl) ?_)
     refine aw (zz2 (off := 1) (ft := 223) rfl bC rfl j6) ?_
     refine aw (kb rfl kO) ?_
     refine aw (zz2 (off := 0) (ft := 23) rfl aj rfl ae) ?_
     refine aw (aJ rfl am) ?_
     refine aw (u0 rfl rfl (by repeat constructor) ij aL iJ) ?_
     refine aw (aa rfl) (aw (aO rfl rfl) (aw (aO rfl rfl) (aw (ab rfl) (aw (ab rfl) (bH ?_)))))
     refine ac (af (zz0 (aa rfl) (zz0 (cN rfl) (ad ?_))))
     refine an rfl ?_ ?_ <;> intro h4 <;> try simp only [bs] at h4
     ·refine fG 0 7 aS ?_
      refine bG ?_
      refine aw (aa rfl) (aw (bv rfl) ?_)
      refine aw (zz2 (off := 1) (ft := 223) rfl bC rfl j6) ?_
      refine aw (kb rfl kO) ?_
      refine aw (zz2 (off := 0) (ft := 23) rfl aj rfl ae) ?_
      refine aw (aJ rfl am) ?_
      refine aw (aa rfl) (bH ?_)
      refine gj (k : Int) rfl rfl rfl (by repeat constructor) ij aL rfl ?_
      refine ad ?_
      refine cw _ Front.nil (bB 21 rfl) (o := (show _ = atK l (k + 1) from (if_neg (by simp_all)).symm))
     ·refine bA ?_
      refine cw _ Front.nil (bB 14 rfl) (o := (show _ = atK l (k + 1) from (if_pos (by simp_all)).symm))
    ·skip
     replace hi : m1 = atK l (k + 1) := hi
     change Tr _ _ [cellE b3 (aP.enc (l.getD k default)) 36, cellE bq [(.slice pV l.length cV), .map (some bm), .slice none 0 0, .slice none 0 0, Vb, VV, VM] 228, rowE Vb 37 cH (List.replicate k (iQ 8)), mapE bm iu m1, rowE VV 3 bQ (List.replicate l.length 0), rowE VM 4 cD (List.replicate l.length false)] ([] ++ _) _
     subst hi
     refine d6 ([]) 11 rfl aS ?_
     refine zz4 0 rfl (aa rfl) ?_
     refine zz4 1 rfl (aa rfl) ?_
     refine zz4 2 rfl (bv rfl) ?_
     refine zz4 3 rfl (zz2 (off := 4) (ft := 177) rfl bC rfl eJ) ?_
     refine dx [4, 5] (fun iq hq => ?_)
     rcases List.mem_cons.1 hq with rfl | hq
     ·skip
      refine bJ rfl ?_
      refine zz0 (kb rfl gW) ?_
      refine cg ?_
      refine dx [5] (fun iq hq => ?_)
      obtain rfl := List.mem_singleton.1 hq
      refine bJ rfl ?_
      refine zz0 (aA rfl Tryz.call160 (fun w hw => wm w)) ?_
      refine cg ?_
      refine dx [6] (fun iq hq => ?_)
      obtain rfl := List.mem_singleton.1 hq
      refine bJ rfl ?_
      refine js (E := cH) (iQ 8) rfl rfl dR aV cS (fun V5 => ?_)
      refine cg ?_
      refine dx [7] (fun iq hq => ?_)
      obtain rfl := List.mem_singleton.1 hq
      refine bJ rfl ?_
      refine zz1 rfl rfl dR qD (fun V6 => ?_)
      refine dw (.head _) (fun pb cb hpb => ?_)
      subst hpb
      refine cg ?_
      refine zz4 8 rfl (bv rfl) ?_
      refine zz4 9 rfl (zz2 (off := 4) (ft := 177) rfl bC rfl eJ) ?_
      refine dx [10] (fun iq hq => ?_)
      obtain rfl := List.mem_singleton.1 hq
      refine bJ rfl ?_
      refine zz3 rfl rfl eJ rfl ?_
      change Tr _ _ [rowE (.slice pb ((List.replicate k (iQ 8)) ++ [iQ 8]).length cb) 37 cH ((List.replicate k (iQ 8)) ++ [iQ 8]), cellE b3 (aP.enc (l.getD k default)) 36, cellE bq [(.slice pV l.length cV), .map (some bm), .slice none 0 0, .slice none 0 0, (.slice pb ((List.replicate k (iQ 8)) ++ [iQ 8]).length cb), VV, VM] 228, mapE bm iu (atK l (k + 1)), rowE VV 3 bQ (List.replicate l.length 0), rowE VM 4 cD (List.replicate l.length false)] _ _
      refine cg ?_
      refine iT ?_
      refine aX (ac (ao (zz0 (cp rfl rfl) ?_)))
      refine zz0 (aa rfl) (ad ?_)
      rw [← List.replicate_succ']
      refine cC (k + 1, _) (Front.c Front.nil) (bB 19 rfl) (o := (by show k + 1 ≤ _; omega))
     obtain rfl := List.mem_singleton.1 hq
     refine bJ rfl ?_
     refine zz0 (aA rfl Tryz.call160 (fun w hw => wm w)) ?_
     refine cg ?_
     refine dx [4, 6] (fun iq hq => ?_)
     rcases List.mem_cons.1 hq with rfl | hq
     ·skip
      refine bJ rfl ?_
      refine zz0 (kb rfl gW) ?_
      refine cg ?_
      refine dx [6] (fun iq hq => ?_)
      obtain rfl := List.mem_singleton.1 hq
      refine bJ rfl ?_
      refine js (E := cH) (iQ 8) rfl rfl dR aV cS (fun V7 => ?_)
      refine cg ?_
      refine dx [7] (fun iq hq => ?_)
      obtain rfl := List.mem_singleton.1 hq
      refine bJ rfl ?_
      refine zz1 rfl rfl dR qD (fun V8 => ?_)
      refine dw (.head _) (fun pb cb hpb => ?_)
      subst hpb
      refine cg ?_
      refine zz4 8 rfl (bv rfl) ?_
      refine zz4 9 rfl (zz2 (off := 4) (ft := 177) rfl bC rfl eJ) ?_
      refine dx [10] (fun iq hq => ?_)
      obtain rfl := List.mem_singleton.1 hq
      refine bJ rfl ?_
      refine zz3 rfl rfl eJ rfl ?_
      change Tr _ _ [rowE (.slice pb ((List.replicate k (iQ 8)) ++ [iQ 8]).length cb) 37 cH ((List.replicate k (iQ 8)) ++ [iQ 8]), cellE b3 (aP.enc (l.getD k default)) 36, cellE bq [(.slice pV l.length cV), .map (some bm), .slice none 0 0, .slice none 0 0, (.slice pb ((List.replicate k (iQ 8)) ++ [iQ 8]).length cb), VV, VM] 228, mapE bm iu (atK l (k + 1)), rowE VV 3 bQ (List.replicate l.length 0), rowE VM 4 cD (List.replicate l.length false)] _ _
      refine cg ?_
      refine iT ?_
      refine aX (ac (ao (zz0 (cp rfl rfl) ?_)))
      refine zz0 (aa rfl) (ad ?_)
      rw [← List.replicate_succ']
      refine cC (k + 1, _) (Front.c Front.nil) (bB 19 rfl) (o := (by show k + 1 ≤ _; omega))
     obtain rfl := List.mem_singleton.1 hq
     refine bJ rfl ?_
     refine js (E := cH) (iQ 8) rfl rfl dR aV cS (fun V9 => ?_)
     refine cg ?_
     refine dx [4] (fun iq hq => ?_)
     obtain rfl := List.mem_singleton.1 hq
     refine bJ rfl ?_
     refine zz0 (kb rfl gW) ?_
     refine cg ?_
     refine dx [7] (fun iq hq => ?_)
     obtain rfl := List.mem_singleton.1 hq
     refine bJ rfl ?_
     refine zz1 rfl rfl dR qD (fun V10 => ?_)
     refine dw (.head _) (fun pb cb hpb => ?_)
     subst hpb
     refine cg ?_
     refine zz4 8 rfl (bv rfl) ?_
     refine zz4 9 rfl (zz2 (off := 4) (ft := 177) rfl bC rfl eJ) ?_
     refine dx [10] (fun iq hq => ?_)
     obtain rfl := List.mem_singleton.1 hq
     refine bJ rfl ?_
     refine zz3 rfl rfl eJ rfl ?_
     change Tr _ _ [rowE (.slice pb ((List.replicate k (iQ 8)) ++ [iQ 8]).length cb) 37 cH ((List.replicate k (iQ 8)) ++ [iQ 8]), cellE b3 (aP.enc (l.getD k default)) 36, cellE bq [(.slice pV l.length cV), .map (some bm), .slice none 0 0, .slice none 0 0, (.slice pb ((List.replicate k (iQ 8)) ++ [iQ 8]).length cb), VV, VM] 228, mapE bm iu (atK l (k + 1)), rowE VV 3 bQ (List.replicate l.length 0), rowE VM 4 cD (List.replicate l.length false)] _ _
     refine cg ?_
     refine iT ?_
     refine aX (ac (ao (zz0 (cp rfl rfl) ?_)))
     refine zz0 (aa rfl) (ad ?_)
     rw [← List.replicate_succ']
     refine cC (k + 1, _) (Front.c Front.nil) (bB 19 rfl) (o := (by show k + 1 ≤ _; omega))
   ·refine bF (aG (aG (bj (ac (al ?_)))))
    obtain rfl : k = l.length := by omega
    refine ao (zz0 (aa rfl) (zz0 (bv rfl) ?_))
    refine zz0 (zz2 (off := 1) (ft := 223) rfl bC rfl j6) ?_
    refine zz0 (kb rfl kO) ?_
    refine zz0 (aa rfl) (zz0 (u0 rfl rfl (by repeat constructor) ij aL iJ) ?_)
    rw [AV]
    obtain ⟨fe, hfe⟩ : ∃ fe, fe = dT l entry := ⟨_, rfl⟩
    rw [← hfe]
    refine zz0 (aa rfl) (zz0 (aO rfl rfl) (zz0 (aO rfl rfl) (zz0 (ab rfl) (zz0 (ab rfl) (ad (al (af (zz0 (aa rfl) (zz0 (cN rfl) (ad ?_))))))))))
    refine an rfl ?_ ?_ <;> intro h11 <;> try simp only [bs] at h11
    ·refine al (cj 37 cH ?_)
     refine ao (zz0 (ab rfl) (zz0 (ab rfl) (ad (az (ay ?_)))))
     refine df kC rfl rfl (fun w' hw => ?_)
     have ht1 : (if fe < 0 then none else some fe).isSome = false := by first | assumption | simp_all
     have ht0 : fe < 0 := by
      by_cases q : fe < 0
      ·exact q
      ·rw [if_neg q] at ht1; simp at ht1
     have e : eH l entry rounds = ([], 9) := by unfold eH; rw [if_neg (by omega), if_pos (by rw [← hfe]; exact ht0)]
     refine ⟨.slice none 0 0, by rw [e], hw.below0 (Bg.le.refl _), by rw [e]; exact hw.ents0 rfl (by repeat' constructor)⟩
    ·refine bA (al ?_)
     have ht1 : (if fe < 0 then none else some fe).isSome = true := by first | assumption | simp_all
     have ht0 : ¬ fe < 0 := fun q => by rw [if_pos q] at ht1; simp at ht1
     have htl := (ri l entry).2
     rw [← hfe] at htl
     rw [if_neg ht0, Option.getD_some]
     obtain ⟨fn, hfn⟩ : ∃ fn : Nat, fe = (fn : Int) := ⟨fe.toNat, by omega⟩
     subst hfn
     refine l9 (b := bm) (by repeat constructor) (fun F1 hF1 hA1 => ?_)
     refine ao (zz0 (aa rfl) (zz0 (aa rfl) ?_))
     refine iG (fun _ : Value × Value × List EdV => .tuple #[]) [cellE bq [(.slice pV l.length cV), .map (some bm), .slice none 0 0, .slice none 0 0, Vb, VV, VM] 228] (fun i : Value × Value × List EdV => cellE bq [(.slice pV l.length cV), .map (some bm), i.1, i.2.1, Vb, VV, VM] 228 :: rowE i.2.1 3 bQ (eY l fn) :: rowE i.1 272 gJ i.2.2 :: i.2.2.map (rvE 274 eP)) (ok := fun i => i.2.2.map (·.data) = kZ l) (dd := fun _ => 0) rfl Tryz.call161 (by repeat' constructor) (fun w hw => Nat.le_of_eq hF1.dr) (fun w hw => zq l fn bq bm (.slice pV l.length cV) Vb VV VM w (hw.own (by repeat' constructor)) ((hI0.mono hF1.blk).mono (show Hp.le F1.blk (Bg.lessB w [bq] 0).blk from hw.lessB (Lo := [cellE bq [(.slice pV l.length cV), .map (some bm), .slice none 0 0, .slice none 0 0, Vb, VV, VM] 228]) (by repeat' constructor))) (hA1.mono (show Hp.le F1.blk (Bg.lessB w [bq] 0).blk from hw.lessB (Lo := [cellE bq [(.slice pV l.length cV), .map (some bm), .slice none 0 0, .slice none 0 0, Vb, VV, VM] 228]) (by repeat' constructor))) hIO (by omega) (by omega)) rfl (fun i15 hrs => ?_)
     obtain ⟨VE, VG, rs⟩ := i15
     replace hrs : rs.map (·.data) = kZ l := hrs
     refine ya (A := [cellE bq [(.slice pV l.length cV), .map (some bm), VE, VG, Vb, VV, VM] 228, rowE VG 3 bQ (eY l fn), rowE VE 272 gJ rs]) rs (fun F2 hF2 hEI2 => ?_)
     change Tr _ _ [cellE bq [(.slice pV l.length cV), .map (some bm), VE, VG, Vb, VV, VM] 228, rowE VG 3 bQ (eY l fn), rowE VE 272 gJ rs, rowE Vb 37 cH (List.replicate l.length (iQ 8)), rowE VV 3 bQ (List.replicate l.length 0), rowE VM 4 cD (List.replicate l.length false)] _ _
     refine uW (b := bq) (.here _) (fun F3 hF3 hcx3 => ?_)
     refine ki (V := VG) (T := 3) (E := bQ) (.here _) (fun F4 hF4 hG4 => ?_)
     refine ki (V := VE) (T := 272) (E := gJ) (.here _) (fun F5 hF5 hE5 => ?_)
     have hF15 := hF2.trans (hF3.trans (hF4.trans hF5))
     have hF05 := hF1.trans hF15
     have hEI5 := hEI2.mono (hF3.trans (hF4.trans hF5)).blk
     have hcx5 := hcx3.mono (hF4.trans hF5).blk
     have hG5 := hG4.mono hF5.blk
     have hI5 := hI0.mono hF05.blk
     have hdr5 : F5.dr = 0 := hF05.dr
     refine ad (al ?_)
     have hr1 : (List.replicate l.length (iQ 8)).length = l.length := List.length_replicate
     have hr2 : (List.replicate l.length false).length = l.length := List.length_replicate
     refine fG 0 7 aS ?_
     refine bG ?_
     refine aw (aa rfl) (aw (bv rfl) ?_)
     refine aw (zz2 (off := 4) (ft := 177) rfl bC rfl eJ) ?_
     refine aw (eU rfl hcx5 gW (by rfl)) ?_
     refine aw (aa rfl) (aw (aA rfl Tryz.call162 (fun w hw => oI w)) ?_)
     refine aw (zz7 rfl rfl dR aV) ?_
     refine bH ?_
     refine gh (l := (List.replicate l.length (iQ 8))) (i := fn) ((wP 8)) rfl rfl aV ?_
     have hls12 : (List.set (List.replicate l.length (iQ 8)) (fn) ((wP 8))).length = ((List.replicate l.length (iQ 8))).length := List.length_set
     refine aI (zz0 (aa rfl) (zz0 (bv rfl) ?_))
     refine zz0 (zz2 (off := 6) (ft := 225) rfl bC rfl lz) ?_
     refine zz0 (eU rfl hcx5 mz (by rfl)) ?_
     refine zz0 (aa rfl) (zz0 (zz7 rfl rfl eF bW) ?_)
     refine gh (l := (List.replicate l.length false)) (i := fn) (true) rfl rfl bW ?_
     have hls13 : (List.set (List.replicate l.length false) (fn) (true)).length = ((List.replicate l.length false)).length := List.length_set
     refine aI (zz0 (ab rfl) (ad (aD ?_)))
     refine bK (ι := Nat × VSt) (fun ⟨n, s⟩ => (n ≤ rounds ∧ iE l (eY l fn) (kZ l) (rounds - n) s = iE l (eY l fn) (kZ l) rounds (qg l fn)) ∧ (s.st.length = l.length ∧ s.vs.length = l.length ∧ s.mb.length = l.length) ∧ ∀ v ∈ s.vs, 0 ≤ v ∧ v ≤ (n : Int)) (fun _ => F5) (fun ⟨n, s⟩ => [rowE Vb 37 cH s.st, rowE VV 3 bQ s.vs, rowE VM 4 cD s.mb]) (fun ⟨n, s⟩ => [(15, .int .i64 (n : Nat))]) (fun ⟨n, s⟩ => rounds - n) (0, (qg l fn)) ⟨⟨Nat.zero_le _, by rw [Nat.sub_zero]⟩, ⟨by simp [qg], by simp [qg], by simp [qg]⟩, fun v hv => by rw [(List.mem_replicate.1 hv).2]; omega⟩ (Front.c Front.nil) (by repeat' constructor) rfl (fun i hi m hm => ?_)
     obtain ⟨n, s⟩ := i
     replace hi : (n ≤ rounds ∧ iE l (eY l fn) (kZ l) (rounds - n) s = iE l (eY l fn) (kZ l) rounds (qg l fn)) ∧ (s.st.length = l.length ∧ s.vs.length = l.length ∧ s.mb.length = l.length) ∧ ∀ v ∈ s.vs, 0 ≤ v ∧ v ≤ (n : Int) := hi
     replace hm : m = rounds - n := hm
     change Tr _ _ [rowE Vb 37 cH s.st, rowE VV 3 bQ s.vs, rowE VM 4 cD s.mb] ([(15, .int .i64 (n : Nat))] ++ _) _
     obtain ⟨⟨hnr, han⟩, ⟨hst, hvt, hmt⟩, hvn⟩ := hi
     refine al (aD (af (zz0 (aa rfl) (zz0 (bv rfl) ?_))))
     refine zz0 (zz2 (off := 6) (ft := 225) rfl bC rfl lz) ?_
     refine zz0 (eU rfl hcx5 mz (by rfl)) ?_
     refine zz0 (aA rfl Tryz.call163 (fun w hw => AB s.mb VM true w (hw.row (by repeat constructor)))) ?_
     refine zz0 (ab rfl) (ad (al (af (zz0 (aa rfl) (zz0 (bP rfl rfl) (ad ?_))))))
     refine an rfl ?_ ?_ <;> intro h14 <;> try simp only [bs] at h14
     ·refine af (zz0 (aa rfl) (zz0 (bv rfl) ?_))
      refine zz0 (zz2 (off := 4) (ft := 177) rfl bC rfl eJ) ?_
      refine zz0 (eU rfl hcx5 gW (by rfl)) ?_
      refine zz0 (ab rfl) (zz0 (ab rfl) (ad (az (ay (bh (ay (ay (bh ?_))))))))
      refine df kC rfl rfl (fun w' hw => ?_)
      have e : eH l entry rounds = (s.st, 0) := by
       unfold eH
       rw [if_neg (by omega), if_neg (by rw [← hfe]; exact ht0), ← hfe, Int.toNat_natCast, ← han]
       exact vx (by show dW _ _ _ < 0; assumption)
      refine ⟨Vb, by rw [e], hw.below0 hF05, by rw [e]; exact hw.ents0 hF05.lo (by repeat' constructor)⟩
     ·refine bA (al (af (zz0 (aa rfl) (zz0 (aa rfl) (zz0 (eE rfl rfl) (ad ?_))))))
      refine an rfl ?_ ?_ <;> intro h15 <;> try simp only [bs] at h15
      ·refine al (cj 37 cH ?_)
       refine ao (zz0 (ab rfl) (zz0 (ab rfl) (ad (az (ay (bh (ay (ay (bh ?_)))))))))
       refine df kC rfl rfl (fun w' hw => ?_)
       have e : eH l entry rounds = ([], 15) := by
        unfold eH
        rw [if_neg (by omega), if_neg (by rw [← hfe]; exact ht0), ← hfe, Int.toNat_natCast, ← han, show rounds - n = 0 by omega]
        exact xQ (by show ¬ dW _ _ _ < 0; omega)
       refine ⟨.slice none 0 0, by rw [e], hw.below0 hF05, by rw [e]; exact hw.ents0 hF05.lo (by repeat' constructor)⟩
      ·refine bA ?_
       obtain ⟨km, hkm⟩ : ∃ km : Nat, dW (fun x => decide (true = x)) 0 s.mb = (km : Int) := ⟨_, (Int.toNat_of_nonneg (by omega)).symm⟩
       rw [hkm]
       have hkl := jP (fun x => decide (true = x)) s.mb 0
       refine ao (zz0 (aa rfl) (zz0 (aa rfl) ?_))
       refine iG (fun _ : Unit => .tuple #[]) [rowE Vb 37 cH s.st, rowE VV 3 bQ s.vs, rowE VM 4 cD s.mb] (fun _ => [rowE Vb 37 cH (ju l (eY l fn) (rs.getD km default).data km s).st, rowE VV 3 bQ (ju l (eY l fn) (rs.getD km default).data km s).vs, rowE VM 4 cD (ju l (eY l fn) (rs.getD km default).data km s).mb]) (ok := fun _ => True) (dd := fun _ => 0) rfl Tryz.call164 (by repeat' constructor) (fun w hw => Nat.le_of_eq hdr5) (fun w hw => Cb l (eY l fn) rs s bq bm km (.slice pV l.length cV) VE VG Vb VV VM w (hw.own (by repeat' constructor)) (hcx5.mono (show Hp.le F5.blk (Bg.lessB w (c9 [rowE Vb 37 cH s.st, rowE VV 3 bQ s.vs, rowE VM 4 cD s.mb]) 0).blk from hw.lessB (Lo := [rowE Vb 37 cH s.st, rowE VV 3 bQ s.vs, rowE VM 4 cD s.mb]) (by repeat' constructor))) (hI5.mono (show Hp.le F5.blk (Bg.lessB w (c9 [rowE Vb 37 cH s.st, rowE VV 3 bQ s.vs, rowE VM 4 cD s.mb]) 0).blk from hw.lessB (Lo := [rowE Vb 37 cH s.st, rowE VV 3 bQ s.vs, rowE VM 4 cD s.mb]) (by repeat' constructor))) (hG5.mono (show Hp.le F5.blk (Bg.lessB w (c9 [rowE Vb 37 cH s.st, rowE VV 3 bQ s.vs, rowE VM 4 cD s.mb]) 0).blk from hw.lessB (Lo := [rowE Vb 37 cH s.st, rowE VV 3 bQ s.vs, rowE VM 4 cD s.mb]) (by repeat' constructor))) (hE5.mono (show Hp.le F5.blk (Bg.lessB w (c9 [rowE Vb 37 cH s.st, rowE VV 3 bQ s.vs, rowE VM 4 cD s.mb]) 0).blk from hw.lessB (Lo := [rowE Vb 37 cH s.st, rowE VV 3 bQ s.vs, rowE VM 4 cD s.mb]) (by repeat' constructor))) (hEI5.mono (show Hp.le F5.blk (Bg.lessB w (c9 [rowE Vb 37 cH s.st, rowE VV 3 bQ s.vs, rowE VM 4 cD s.mb]) 0).blk from hw.lessB (Lo := [rowE Vb 37 cH s.st, rowE VV 3 bQ s.vs, rowE VM 4 cD s.mb]) (by repeat' constructor))) hIO (uI _ _) hst hvt hmt (CW hrs) (CP _ _) (Gm hrs km) (fun v hv => by have := hvn v hv; omega) (by omega)) rfl (fun _ _ => ?_)
       refine aB (aX (ac (ao (zz0 (aa rfl) (zz0 (cp rfl rfl) ?_)))))
       refine zz0 (ab rfl) (ad ?_)
       have hfm : mM s.mb = (km : Int) := hkm
       have hstep : iE l (eY l fn) (kZ l) (rounds - n) s = iE l (eY l fn) (kZ l) (rounds - (n + 1)) (ju l (eY l fn) (rs.getD km default).data km s) := by
        rw [show rounds - n = rounds - (n + 1) + 1 by omega, vw (by rw [hfm]; omega), hfm, Int.toNat_natCast, mh hrs km]
       have hvl := Ad l (eY l fn) (rs.getD km default).data km s
       have hvv := Do (l := l) (gd := (eY l fn)) (es := (rs.getD km default).data) (k := km) (by omega) hvn
       refine cC (n + 1, ju l (eY l fn) (rs.getD km default).data km s) (Front.c Front.nil) (bB 18 rfl) (o := ⟨⟨by omega, hstep.symm.trans han⟩, ⟨hvl.1.trans hst, hvl.2.1.trans hvt, hvl.2.2.trans hmt⟩, hvv⟩)
end Go.Proofs.YtiajjbhcpeadfaaGreat
namespace Go.HL
open Go
section
variable {P : Program} {N : Nat} {F : Bg} {L : List Ent} {M : Fr} {dst : Option Tmp} {ty : TypeId} {pos : String} {after : Array Edge} {g : Option (Nat × Bool)}
theorem De {fo : Operand} {f : FuncId} {us : List Value} {xs : List Operand} {vs : List Value} {ts : Array TypeId} {v : Value} (hf : opv M fo = some (.func (.func f) us.toArray #[])) (hx : lQ M xs = some vs)
  (he : ∀ (args : Array Value) (w : World), (callFunc f args).run P w = .ok (.enter f args) w)
  (hc : ∀ w, HpOK F L w → Calls P f (us ++ vs).toArray w fun e w' => e = .returned v ∧ Ext w w') :
  QS P N F L M ⟨dst, .call { callee := .value fo, args := xs.toArray, argTypes := ts }, ty, pos, after, g⟩ v := by
 intro a w ha hw
 unfold Oper.quietAt
 have h1 := ha.evals hx
 have h2 := ha.eval hf
 have hr : (execOp a.eval ⟨dst, .call { callee := .value fo, args := xs.toArray, argTypes := ts }, ty, pos, after, g⟩).run P w = .ok (.enter f (us ++ vs).toArray) w := by
  simp [execOp, resolve, Deferred.ofValue, invoke, he, h1, h2]
 rw [hr]
 exact ⟨rfl, (hc w hw).mono fun e w' ⟨h1, h2⟩ => ⟨h1, hw.grow h2⟩⟩
end
def k7 (l : List SecV) (a : UInt32) : UInt32 × Bool :=
 if (fy l a 4).2 ≠ 0 ∨ (fy l a 4).1.length ≠ 4 then (0, false)
 else if cO l a < 0 ∨ (l.getD (cO l a).toNat default).wr = true then (0, false) else (leP (fy l a 4).1, true)
def Cd (l : List SecV) (a : UInt32) : Bool := decide (0 ≤ cO l a) && (l.getD (cO l a).toNat default).ex
def uH (i : Ins) : Bool := decide (iZ i = 0) && uG i.op
def iP (l : List SecV) (t j : UInt32) : UInt32 × Bool := ((k7 l (t + 4 * j)).1, (k7 l (t + 4 * j)).2 && Cd l (k7 l (t + 4 * j)).1)
theorem Hk {l : List UInt8} (h : l.length = 4) :
  (((l.getD 0 default).toUInt32 ||| lg (l.getD 1 default).toUInt32 8) ||| lg (l.getD 2 default).toUInt32 16) ||| lg (l.getD 3 default).toUInt32 24 = leP l := by
 have h0 : leP (l.take 1) = (l.getD 0 default).toUInt32 := by
  rw [← tt (l := l) (k := 0) (by omega) (by omega) (c := 0) rfl]
  rw [← UInt32.toNat_inj, UInt32.toNat_or, kG]
  simp [leP]
 have h1 := tt (l := l) (k := 1) (by omega) (by omega) (c := 8) rfl
 have h2 := tt (l := l) (k := 2) (by omega) (by omega) (c := 16) rfl
 have h3 := tt (l := l) (k := 3) (by omega) (by omega) (c := 24) rfl
 rw [List.take_of_length_le (l := l) (i := 3 + 1) (by omega)] at h3
 rw [← h3, ← h2, ← h1, ← h0]; rfl
def wS (s : VSet) (j : UInt32) : UInt32 := if s9 s j = true then j else s.lo
def oJ (l : List SecV) (t : UInt32) (s : VSet) : Nat → Option (List UInt32)
 | 0 => some []
 | n + 1 => match oJ l t s n with
  | none => none
  | some out => if (iP l t (wS s (u32 (n : Int)))).2 = true then some (out ++ [(iP l t (wS s (u32 (n : Int)))).1]) else none
theorem tP {l : List SecV} {t : UInt32} {s : VSet} : ∀ {n : Nat} {out : List UInt32}, oJ l t s n = some out → out.length = n
 | 0, out, h => by simp only [oJ, Option.some.injEq] at h; subst h; rfl
 | n + 1, out, h => by
  simp only [oJ] at h
  cases hk : oJ l t s n with
  | none => rw [hk] at h; cases h
  | some o =>
   rw [hk] at h
   simp only at h
   split at h
   ·cases h; rw [List.length_append, tP hk]; rfl
   ·cases h
theorem Dw {l : List SecV} {t : UInt32} {s : VSet} {n : Nat} {out : List UInt32} (h : oJ l t s n = some out) (h2 : (iP l t (wS s (u32 (n : Int)))).2 = true) : oJ l t s (n + 1) = some (out ++ [(iP l t (wS s (u32 (n : Int)))).1]) := by
 simp only [oJ, h]; rw [if_pos h2]
theorem FB {l : List SecV} {t : UInt32} {s : VSet} {n : Nat} {out : List UInt32} (h : oJ l t s n = some out) (h2 : (iP l t (wS s (u32 (n : Int)))).2 = false) : oJ l t s (n + 1) = none := by
 simp only [oJ, h]; rw [if_neg (by rw [h2]; simp)]
theorem Ce {l : List SecV} {t : UInt32} {s : VSet} {n : Nat} (h : oJ l t s n = none) : ∀ m, n ≤ m → oJ l t s m = none := by
  intro m hm
  induction m with
  | zero => obtain rfl : n = 0 := by omega
            exact h
  | succ m ih =>
    rcases Nat.lt_or_ge n (m + 1) with q | q
    · simp only [oJ, ih (by omega)]
    · obtain rfl : n = m + 1 := by omega
      exact h
def dm (l : List SecV) (i : Ins) (x : VSet) : List UInt32 × Int :=
 if uH i = false then ([], 2) else if gP l ≠ 0 then ([], gP l)
 else if (iU x = false ∨ x.em = true) ∨ x.top = true then ([], 19)
 else if i.op ≠ 22 then (if (fc x).2 ≠ 0 ∨ ((fc x).1.any fun a => !Cd l a) = true then ([], 19) else ((fc x).1, 0))
 else if 64 ≤ x.hi then ([], 19)
 else match oJ l i.imm x (x.hi.toNat + 1) with
  | none => ([], 19)
  | some out => (out, 0)
def jO (l : List SecV) (a : UInt32) : Nat → Bool
 | 0 => true
 | n + 1 => jO l a n && (iP l a (u32 (n : Int))).2
theorem sK {l : List SecV} {a : UInt32} {n : Nat} (h : jO l a n = false) : ∀ m, n ≤ m → jO l a m = false := by
  intro m hm
  induction m with
  | zero => obtain rfl : n = 0 := by omega
            exact h
  | succ m ih =>
    rcases Nat.lt_or_ge n (m + 1) with q | q
    · simp only [jO, ih (by omega), Bool.false_and]
    · obtain rfl : n = m + 1 := by omega
      exact h
def mK (l : List SecV) (a : UInt32) (n : Int) : Bool := if (n < 1 ∨ 64 < n) ∨ gP l ≠ 0 then false else jO l a n.toNat
theorem Dt {j : Nat} (h : j < 4294967295) : u32 (j : Int) + 1 = u32 ((j + 1 : Nat) : Int) := by
 have h1 := rJ (j : Int)
 have h2 := rJ ((j + 1 : Nat) : Int)
 rw [← UInt32.toNat_inj, UInt32.toNat_add]
 have e : (1 : UInt32).toNat = 1 := rfl
 rw [e]; omega
theorem BE {x : UInt32} (h : x < 64) : (x + 1).toNat = x.toNat + 1 := by
 rw [UInt32.lt_iff_toNat_lt] at h
 have e : (64 : UInt32).toNat = 64 := rfl
 have e1 : (1 : UInt32).toNat = 1 := rfl
 rw [UInt32.toNat_add, e1]; omega
end Go.HL
namespace Go.Proofs.YtiajjbhcpeadfaaGreat
open Go Go.HL Go.RowKit
theorem Fv (l : List SecV) (pV : Option Addr) (cV : Nat) (a : UInt32) (w : World) (hV : Sl (hp w) cR l (.slice pV l.length cV)) (hB : SecB l) (hD : DataIn (hp w) l) :
  Calls Tryz.prog 104 #[.agg #[(.slice pV l.length cV)], .int .u32 a.toNat] w (fun e w' => e = .returned (.tuple #[.int .u32 (k7 l a).1.toNat, .bool (k7 l a).2]) ∧ Ext w w') := by
 have hV' : Sl (Bg.of w).blk cR l (.slice pV l.length cV) := hV
 have hff := jy (l := l) (a := a)
 have hD' : DataIn (Bg.of w).blk l := hD
 refine enter Tryz.func104 rfl Tryz.ntmps104 rfl ?_
 refine af ?_
 refine dJ rfl rfl (fun b1 => ?_)
 refine zz0 (ab rfl) (zz0 (ab rfl) (aI (zz0 (zz2 (off := 0) (ft := 22) rfl iF rfl kN) ?_)))
 refine zz0 (aJ rfl l5) ?_
 refine zz0 (aa rfl) ?_
 refine gX (fun V => .tuple #[V, .int .i64 (fy l a 4).2]) rfl Tryz.call157 (fun w hw => DZ l (.slice pV l.length cV) a 4 w (hw.slF hV') hB (hD'.mono hw.bg) (by omega)) rfl (fun V2 => ?_)
 refine zz0 (aa rfl) (zz0 (aO rfl rfl) (zz0 (aO rfl rfl) (zz0 (ab rfl) (zz0 (ab rfl) (ad (al (af (zz0 (aa rfl) (zz0 (fU rfl rfl) (zz0 (aa rfl) ?_))))))))))
 apply dB
 ·exact (rfl : _ = (4, 18, 22))
 ·exact rfl
 ·intro hF3; have hF3' := hF3
  try simp only [bs] at hF3'
  refine zz5 hF3 (aa rfl) (zz5 hF3 (lI rfl aZ) ?_)
  refine zz5 hF3 (fU rfl rfl) (zz0 (aR rfl hF3 rfl) ?_)
  refine aB (ac ?_)
  exact aH (Sub.cons rfl (zz9 4 rfl))
 ·intro hT3
  refine zz8 hT3 (zz8 hT3 (zz8 hT3 (zz0 (aQ rfl hT3 rfl) ?_)))
  refine aB (ac ?_)
  exact aH (Sub.cons rfl (zz9 4 rfl))
 refine ad ?_
 refine an rfl ?_ ?_ <;> intro h4 <;> try simp only [bs] at h4
 ·have hq1 := h4
  refine af (zz0 (ab rfl) (zz0 (ab rfl) (ad (az (ay ?_)))))
  refine df m4 rfl rfl (fun w' hw => ?_)
  exact ⟨by unfold k7; rw [if_pos (by omega)]; rfl, hw.b0⟩
 ·have hq1 := h4
  refine dh (zz0 (zz2 (off := 0) (ft := 22) rfl iF rfl kN) ?_)
  refine zz0 (aJ rfl l5) ?_
  refine zz0 (aa rfl) (zz0 (aA rfl oh (fun w hw => rj l (.slice pV l.length cV) a w (hw.slF hV') hB)) ?_)
  refine zz0 (ab rfl) (ad (al (af (zz0 (aa rfl) (zz0 (bP rfl rfl) (zz0 (aa rfl) ?_))))))
  apply dB
  ·exact (rfl : _ = (7, 29, 36))
  ·exact rfl
  ·intro hF5; have hF5' := hF5
   try simp only [bs] at hF5'
   refine zz5 hF5 (zz2 (off := 0) (ft := 22) rfl iF rfl kN) ?_
   refine zz5 hF5 (aJ rfl l5) ?_
   refine zz5 hF5 (aa rfl) (zz5 hF5 (ll rfl rfl bE bT) ?_)
   refine zz5 hF5 (zz2 (off := 3) (ft := 4) rfl bL rfl bW) ?_
   refine zz5 hF5 (oy rfl cB) ?_
   refine zz0 (aR rfl hF5 rfl) ?_
   refine aB (ac ?_)
   exact aH (Sub.cons rfl (zz9 7 rfl))
  ·intro hT5
   refine zz8 hT5 (zz8 hT5 (zz8 hT5 (zz8 hT5 (zz8 hT5 (zz8 hT5 (zz0 (aQ rfl hT5 rfl) ?_))))))
   refine aB (ac ?_)
   exact aH (Sub.cons rfl (zz9 7 rfl))
  refine ad ?_
  refine an rfl ?_ ?_ <;> intro h6 <;> try simp only [bs] at h6
  ·have hq2 := h6
   refine af (zz0 (ab rfl) (zz0 (ab rfl) (ad (az (ay ?_)))))
   refine df m4 rfl rfl (fun w' hw => ?_)
   exact ⟨by unfold k7; rw [if_neg (by omega), if_pos hq2]; rfl, hw.b0⟩
  ·have hq2 := h6
   refine bA (al (gQ aS ?_))
   refine aw (aa rfl) (aw (zz7 (E := dO) (l := (fy l a 4).1) (i := 0) rfl rfl aZ dl) ?_)
   refine aw (dY rfl fm) ?_
   refine aw (fW rfl bZ aL) (aw (aa rfl) (aw (zz7 (E := dO) (l := (fy l a 4).1) (i := 1) rfl rfl aZ dl) ?_))
   refine aw (dY rfl fm) ?_
   refine aw (fW rfl bZ aL) (aw (j8 rfl rfl (by omega)) ?_)
   refine aw (rA rfl rfl) ?_
   refine aw (aa rfl) (aw (zz7 (E := dO) (l := (fy l a 4).1) (i := 2) rfl rfl aZ dl) ?_)
   refine aw (dY rfl fm) ?_
   refine aw (fW rfl bZ aL) (aw (j8 rfl rfl (by omega)) ?_)
   refine aw (rA rfl rfl) ?_
   refine aw (aa rfl) (aw (zz7 (E := dO) (l := (fy l a 4).1) (i := 3) rfl rfl aZ dl) ?_)
   refine aw (dY rfl fm) ?_
   refine aw (fW rfl bZ aL) (aw (j8 rfl rfl (by omega)) ?_)
   refine aw (rA rfl rfl) ?_
   refine aw (ab rfl) (aw (ab rfl) (bH ?_))
   refine ac (az ?_)
   refine df m4 rfl rfl (fun w' hw => ?_)
   refine ⟨?_, hw.b0⟩
   unfold k7
   rw [if_neg (by omega), if_neg (fun q => q.elim (fun q => hq2.1 q) (fun q => by rw [hq2.2] at q; cases q))]
   exact congrArg (fun x : UInt32 => Ending.returned (.tuple #[.int .u32 x.toNat, .bool true])) (Hk (by omega))
theorem vH (l : List SecV) (pV : Option Addr) (cV : Nat) (a : UInt32) (w : World) (hV : Sl (hp w) cR l (.slice pV l.length cV)) (hB : SecB l) :
  Calls Tryz.prog 44 #[.agg #[(.slice pV l.length cV)], .int .u32 a.toNat] w (fun e w' => e = .returned (.bool (Cd l a)) ∧ Ext w w') := by
 have hV' : Sl (Bg.of w).blk cR l (.slice pV l.length cV) := hV
 have hff := jy (l := l) (a := a)
 refine enter Tryz.func44 rfl Tryz.ntmps44 rfl ?_
 refine af ?_
 refine dJ rfl rfl (fun b1 => ?_)
 refine zz0 (ab rfl) (aI (zz0 (zz2 (off := 0) (ft := 22) rfl iF rfl kN) ?_))
 refine zz0 (aJ rfl l5) ?_
 refine zz0 (aa rfl) (zz0 (aA rfl oh (fun w hw => rj l (.slice pV l.length cV) a w (hw.slF hV') hB)) ?_)
 refine zz0 (ab rfl) (aI (zz0 (aa rfl) (zz0 (eE rfl rfl) (zz0 (aa rfl) ?_))))
 apply cm
 ·exact (rfl : _ = (7, 12, 19))
 ·exact rfl
 ·intro hT2; have hT2' := hT2
  try simp only [bs] at hT2'
  refine zz5 hT2 (zz2 (off := 0) (ft := 22) rfl iF rfl kN) ?_
  refine zz5 hT2 (aJ rfl l5) ?_
  refine zz5 hT2 (aa rfl) (zz5 hT2 (ll rfl rfl bE bT) ?_)
  refine zz5 hT2 (zz2 (off := 4) (ft := 4) rfl bL rfl bW) ?_
  refine zz5 hT2 (oy rfl cB) ?_
  refine zz0 (aQ rfl hT2 rfl) ?_
  refine aB (ac ?_)
  exact aH (Sub.cons rfl (zz9 7 rfl))
 ·intro hF2
  refine zz8 hF2 (zz8 hF2 (zz8 hF2 (zz8 hF2 (zz8 hF2 (zz8 hF2 (zz0 (aR rfl hF2 rfl) ?_))))))
  refine aB (ac ?_)
  exact aH (Sub.cons rfl (zz9 7 rfl))
 refine zz0 (ab rfl) (ad (az ?_))
 refine aT Tryz.results44 rfl (fun w' hw => ?_)
 exact ⟨rfl, hw.b0⟩
theorem zl (l : List SecV) (pV : Option Addr) (cV : Nat) (t j : UInt32) (w : World) (hV : Sl (hp w) cR l (.slice pV l.length cV)) (hB : SecB l) (hD : DataIn (hp w) l) :
  Calls Tryz.prog 45 #[.agg #[(.slice pV l.length cV)], .int .u32 t.toNat, .int .u32 j.toNat] w (fun e w' => e = .returned (.tuple #[.int .u32 (iP l t j).1.toNat, .bool (iP l t j).2]) ∧ Ext w w') := by
 have hV' : Sl (Bg.of w).blk cR l (.slice pV l.length cV) := hV
 have hD' : DataIn (Bg.of w).blk l := hD
 refine enter Tryz.func45 rfl Tryz.ntmps45 rfl ?_
 refine af ?_
 refine dJ rfl rfl (fun b1 => ?_)
 refine zz0 (ab rfl) (zz0 (ab rfl) (aI (zz0 (bI rfl l4 i6) ?_)))
 refine zz0 (aa rfl) (zz0 (aa rfl) (zz0 (ma (m := 4) rfl rfl) ?_))
 refine zz0 (fY rfl rfl) ?_
 refine zz0 (aA rfl Tryz.call104 (fun w hw => Fv l pV cV (t + 4 * j) w (hw.slF hV') hB (hD'.mono hw.bg))) ?_
 refine zz0 (aa rfl) (zz0 (aO rfl rfl) (zz0 (aO rfl rfl) (zz0 (ab rfl) (zz0 (ab rfl) (aI (zz0 (aa rfl) (zz0 (aa rfl) (zz0 (aa rfl) ?_))))))))
 apply cm
 ·exact (rfl : _ = (4, 21, 25))
 ·exact rfl
 ·intro hT2; have hT2' := hT2
  try simp only [bs] at hT2'
  refine zz5 hT2 (bI rfl l4 i6) ?_
  refine zz5 hT2 (aa rfl) (zz5 hT2 (aA rfl Tryz.call44 (fun w hw => vH l pV cV (k7 l (t + 4 * j)).1 w (hw.slF hV') hB)) ?_)
  refine zz0 (aQ rfl hT2 rfl) ?_
  refine aB (ac ?_)
  exact aH (Sub.cons rfl (zz9 4 rfl))
 ·intro hF2
  refine zz8 hF2 (zz8 hF2 (zz8 hF2 (zz0 (aR rfl hF2 rfl) ?_)))
  refine aB (ac ?_)
  exact aH (Sub.cons rfl (zz9 4 rfl))
 refine zz0 (ab rfl) (zz0 (ab rfl) (ad (az ?_)))
 refine df Tryz.results45 rfl rfl (fun w' hw => ?_)
 exact ⟨rfl, hw.b0⟩
theorem sN (i : Ins) (w : World) (hI : InsOK i) :
  Calls Tryz.prog 38 #[.agg (aP.enc i).toArray] w (fun e w' => e = .returned (.bool (uH i)) ∧ Ext w w') := by
 refine enter Tryz.func38 rfl Tryz.ntmps38 rfl ?_
 refine af ?_
 refine dJ rfl rfl (fun b1 => ?_)
 refine zz0 (ab rfl) (aI (zz0 (bI rfl aU ax) ?_))
 refine zz0 (aA rfl kg (fun w hw => kc i w hI)) ?_
 refine zz0 (aa rfl) ?_
 apply cm
 ·exact (rfl : _ = (14, 5, 19))
 ·exact rfl
 ·intro hT2; have hT2' := hT2
  try simp only [bs] at hT2'
  refine zz5 hT2 (zz2 (off := 2) (ft := 3) rfl aj rfl aC) ?_
  refine zz5 hT2 (aJ rfl aN) ?_
  refine zz5 hT2 (bD rfl rfl) (zz5 hT2 (aa rfl) ?_)
  apply dB
  ·exact (rfl : _ = (4, 9, 13))
  ·exact rfl
  ·intro hF3; have hF3' := hF3
   try simp only [bs] at hF3'
   refine zz5 hF3 (zz2 (off := 2) (ft := 3) rfl aj rfl aC) ?_
   refine zz5 hF3 (aJ rfl aN) ?_
   refine zz5 hF3 (bD rfl rfl) (zz5 hT2 (aR rfl hF3 rfl) ?_)
   refine aB (ac ?_)
   exact aH (Sub.cons rfl (zz9 4 rfl))
  ·intro hT3
   refine zz8 hT3 (zz8 hT3 (zz8 hT3 (zz5 hT2 (aQ rfl hT3 rfl) ?_)))
   refine aB (ac ?_)
   exact aH (Sub.cons rfl (zz9 4 rfl))
  refine zz5 hT2 (aa rfl) ?_
  apply dB
  ·exact (rfl : _ = (4, 14, 18))
  ·exact rfl
  ·intro hF4; have hF4' := hF4
   try simp only [bs] at hF4'
   refine zz5 hF4 (zz2 (off := 2) (ft := 3) rfl aj rfl aC) ?_
   refine zz5 hF4 (aJ rfl aN) ?_
   refine zz5 hF4 (bD rfl rfl) (zz5 hT2 (aR rfl hF4 rfl) ?_)
   refine aB (ac ?_)
   exact aH (Sub.cons rfl (zz9 4 rfl))
  ·intro hT4
   refine zz8 hT4 (zz8 hT4 (zz8 hT4 (zz5 hT2 (aQ rfl hT4 rfl) ?_)))
   refine aB (ac ?_)
   exact aH (Sub.cons rfl (zz9 4 rfl))
  refine zz0 (aQ rfl hT2 rfl) ?_
  refine aB (ac ?_)
  exact aH (Sub.cons rfl (zz9 8 rfl))
 ·intro hF2
  refine zz8 hF2 (zz8 hF2 (zz8 hF2 (zz8 hF2 (gi ?_))))
  refine gi ?_
  refine gi ?_
  refine zz8 hF2 (zz8 hF2 (gi ?_))
  refine gi ?_
  refine gi ?_
  refine zz8 hF2 (zz0 (aR rfl hF2 rfl) ?_)
  refine aB (ac ?_)
  exact aH (Sub.cons rfl (zz9 14 rfl))
 refine zz0 (ab rfl) (ad (az ?_))
 refine aT Tryz.results38 rfl (fun w' hw => ?_)
 exact ⟨by unfold uH uG; congr 2; rw [Bool.eq_iff_iff]; simp only [Bool.and_eq_true, Bool.or_eq_true, decide_eq_true_eq]; omega, hw.b0⟩
theorem vm (l : List UInt32) (V : Value) (g : FuncId) (cb : List Value) (w : World) (hV : Sl (hp w) ar l V) (eg : ∀ (args : Array Value) (w : World), (callFunc g args).run Tryz.prog w = .ok (.enter g args) w) (p : UInt32 → Bool) (hp : ∀ x ∈ l, ∀ w', Ext w w' → Calls Tryz.prog g ([Value.int .u32 x.toNat] ++ cb).toArray w' fun e w'' => e = .returned (.bool (p x)) ∧ Ext w' w'') :
  Calls Tryz.prog 101 #[V, .func (.func g) #[] cb.toArray] w (fun e w' => e = .returned (.int .i64 (dW p 0 l)) ∧ Ext w w') := by
 have hV' : Sl (Bg.of w).blk ar l V := hV
 have hlen := hV.len_le
 refine enter Tryz.func101 rfl Tryz.ntmps101 rfl ?_
 refine af (zz0 (ab rfl) (ad (al (af (zz0 (aa rfl) (zz0 (gx rfl ah) ?_))))))
 refine zz0 (aa rfl) (ad (aD ?_))
 refine bK (ι := Nat) (fun k => k ≤ l.length ∧ dW p k (l.drop k) = dW p 0 l) (fun _ => _) (fun k => []) (fun k => [(8, .int .i64 (k : Nat))]) (fun k => l.length - k) 0 ⟨Nat.zero_le _, rfl⟩ (Front.c Front.nil) (by repeat' constructor) rfl (fun k hi m hm => ?_)
 replace hi : k ≤ l.length ∧ dW p k (l.drop k) = dW p 0 l := hi
 replace hm : m = l.length - k := hm
 change Tr _ _ [] ([(8, .int .i64 (k : Nat))] ++ _) _
 obtain ⟨hk1, hk2⟩ := hi
 refine af (zz0 (bP rfl rfl) (ad (al ?_)))
 refine an rfl ?_ ?_ <;> intro h1 <;> try simp only [bs] at h1
 ·refine bA (al (aD (af (zz0 (aa rfl) (zz0 (ab rfl) (aI (zz0 (aa rfl) (zz0 (aa rfl) ?_))))))))
  refine zz0 (aa rfl) (zz0 (gK rfl rfl ah ae) ?_)
  refine zz0 (jx rfl am) ?_
  refine zz0 (io rfl rfl eg (fun w hw => hp _ (cZ (by omega)) w (hw.b0))) ?_
  refine ad ?_
  refine an rfl ?_ ?_ <;> intro h2 <;> try simp only [bs] at h2
  ·refine af (zz0 (aa rfl) (zz0 (ab rfl) (ad (az (bh (ay (ay (bh (ay ?_)))))))))
   refine aT Tryz.results101 rfl (fun w' hw => ?_)
   exact ⟨by rw [← hk2, drop_cons (k := k) (by omega), dW, if_pos (by assumption)], hw.b0⟩
  ·refine cd (aX (ac (ao (zz0 (cp rfl rfl) ?_))))
   refine zz0 (aa rfl) (ad ?_)
   refine cC (k + 1) (Front.c Front.nil) (bB 12 rfl) (o := ⟨by omega, by rw [← hk2, drop_cons (k := k) (by omega), dW, if_neg (by simp_all)]⟩)
 ·refine bF (aG (aG (bj (ac (af (zz0 (ab rfl) (ad (az ?_))))))))
  refine aT Tryz.results101 rfl (fun w' hw => ?_)
  exact ⟨by rw [← hk2, List.drop_of_length_le (by omega)]; rfl, hw.b0⟩
theorem si (l : List UInt32) (V : Value) (g : FuncId) (cb : List Value) (w : World) (hV : Sl (hp w) ar l V) (eg : ∀ (args : Array Value) (w : World), (callFunc g args).run Tryz.prog w = .ok (.enter g args) w) (p : UInt32 → Bool) (hp : ∀ x ∈ l, ∀ w', Ext w w' → Calls Tryz.prog g ([Value.int .u32 x.toNat] ++ cb).toArray w' fun e w'' => e = .returned (.bool (p x)) ∧ Ext w' w'') :
  Calls Tryz.prog 42 #[V, .func (.func g) #[] cb.toArray] w (fun e w' => e = .returned (.bool (l.any p)) ∧ Ext w w') := by
 have hV' : Sl (Bg.of w).blk ar l V := hV
 refine enter Tryz.func42 rfl Tryz.ntmps42 rfl ?_
 refine af (zz0 (ab rfl) (aI (zz0 (aa rfl) (zz0 (aa rfl) (zz0 (aA rfl Tryz.call101 (fun w hw => vm l V g cb w (hw.slF hV') eg p (fun x hx w'' h => hp x hx w'' ((hw.b0).trans h)))) ?_)))))
 refine zz0 (eE rfl rfl) (zz0 (ab rfl) (ad (az ?_)))
 refine aT Tryz.results42 rfl (fun w' hw => ?_)
 exact ⟨by rw [rb], hw.b0⟩
theorem Hg (l : List SecV) (pV : Option Addr) (cV : Nat) (w : World) :
  Calls Tryz.prog 43 #[.func (.func 44) #[.agg #[(.slice pV l.length cV)]] #[]] w (fun e w' => ∃ b : Nat, e = .returned (.func (.func 102) #[] #[.pointer (some ⟨b, 0, none⟩)]) ∧ Ext w w' ∧ NewEnts w w' [cellE b [.func (.func 44) #[.agg #[(.slice pV l.length cV)]] #[]] 95] ∧ True) := by
 refine enter Tryz.func43 rfl Tryz.ntmps43 rfl ?_
 refine af ?_
 refine dJ rfl rfl (fun b1 => ?_)
 refine zz0 (ab rfl) (aI (zz0 (fu rfl rfl) ?_))
 refine zz0 (ab rfl) (ad (az ?_))
 refine aT Tryz.results43 rfl (fun w' hw => ?_)
 exact ⟨_, rfl, hw.b0, hw.ents (Bg.le.refl _) (Pick.refl _), trivial⟩
theorem FT (l : List SecV) (pV : Option Addr) (cV : Nat) (a : UInt32) (b : Nat) (w : World) (hV : Sl (hp w) cR l (.slice pV l.length cV)) (hB : SecB l) (hc : Cell (hp w) b 0 (.func (.func 44) #[.agg #[(.slice pV l.length cV)]] #[])) :
  Calls Tryz.prog 102 #[.int .u32 a.toNat, .pointer (some ⟨b, 0, none⟩)] w (fun e w' => e = .returned (.bool (!Cd l a)) ∧ Ext w w') := by
 have hV' : Sl (Bg.of w).blk cR l (.slice pV l.length cV) := hV
 have hc' : Cell (Bg.of w).blk b 0 (.func (.func 44) #[.agg #[(.slice pV l.length cV)]] #[]) := hc
 refine enter Tryz.func102 rfl Tryz.ntmps102 rfl ?_
 refine af (zz0 (ab rfl) (aI (zz0 (nw rfl (by assumption) Tryz.isAgg95) ?_)))
 refine zz0 (aa rfl) (zz0 (De (us := [.agg #[(.slice pV l.length cV)]]) rfl rfl Tryz.call44 (fun w hw => vH l pV cV a w (hw.slF hV') hB)) ?_)
 refine zz0 (cN rfl) (zz0 (ab rfl) (ad (az ?_)))
 refine aT Tryz.results102 rfl (fun w' hw => ?_)
 exact ⟨rfl, hw.b0⟩
end Go.Proofs.YtiajjbhcpeadfaaGreat
namespace Go.Proofs.YtiajjbhcpeadfaaGreat
open Go Go.HL Go.RowKit
theorem lN (l : List SecV) (pV : Option Addr) (cV : Nat) (i : Ins) (s : StV) (w : World) (hV : Sl (hp w) cR l (.slice pV l.length cV)) (hB : SecB l) (hD : DataIn (hp w) l) (hN : ∀ s ∈ l, s.name.size ≤ 140737488351232) (hI : InsOK i) :
  Calls Tryz.prog 12 #[(.slice pV l.length cV), .agg (aP.enc i).toArray, .agg (cH.enc s).toArray] w (fun e w' => ∃ V' : Value, e = .returned (.tuple #[V', .int .i64 (dm l i (s.get i.a)).2]) ∧ Ext w w' ∧ je w w' 23 ar (dm l i (s.get i.a)).1 V') := by
 have hV' : Sl (Bg.of w).blk cR l (.slice pV l.length cV) := hV
 have hD' : DataIn (Bg.of w).blk l := hD
 refine enter Tryz.func12 rfl Tryz.ntmps12 rfl ?_
 refine af ?_
 refine dJ rfl rfl (fun b1 => ?_)
 refine dJ rfl rfl (fun b2 => ?_)
 refine zz0 (ab rfl) (zz0 (ab rfl) (ad (al (af (zz0 (bI rfl aU ax) ?_)))))
 refine zz0 (aA rfl Tryz.call38 (fun w hw => sN i w hI)) ?_
 refine zz0 (cN rfl) (ad ?_)
 refine an rfl ?_ ?_ <;> intro h3 <;> try simp only [bs] at h3
 ·have hq1 : uH i = false := h3
  refine af (zz0 (ab rfl) (zz0 (ab rfl) (ad (az (ay ?_)))))
  refine df gV rfl rfl (fun w' hw => ?_)
  have e : dm l i (s.get i.a) = ([], 2) := by
   unfold dm
   rw [if_pos hq1]
  exact ⟨.slice none 0 0, by rw [e], hw.b0, by rw [e]; exact eW rfl⟩
 ·have hq1 : uH i = true := by simpa using h3
  refine bA (al (af (zz0 (aa rfl) (zz0 (aA rfl Tryz.call39 (fun w hw => sn l (.slice pV l.length cV) w (hw.slF hV') hB (fun s hs => by have := hN s hs; omega))) ?_))))
  refine zz0 (ab rfl) (aI (zz0 (aa rfl) (zz0 (fU rfl rfl) (ad ?_))))
  refine an rfl ?_ ?_ <;> intro h4 <;> try simp only [bs] at h4
  ·have hq2 : gP l ≠ 0 := h4
   refine af (zz0 (aa rfl) (zz0 (ab rfl) (zz0 (ab rfl) (ad (az (ay ?_))))))
   refine df gV rfl rfl (fun w' hw => ?_)
   have e : dm l i (s.get i.a) = ([], gP l) := by
    unfold dm
    rw [if_neg (by rw [hq1]; simp)]
    rw [if_pos hq2]
   exact ⟨.slice none 0 0, by rw [e], hw.b0, by rw [e]; exact eW rfl⟩
  ·have hq2 : gP l = 0 := by simpa using h4
   refine bA (al ?_)
   have hA := pL (show iZ i = 0 by unfold uH at hq1; simp at hq1; exact hq1.1)
   refine ao (zz0 (zz2 (off := 6) (ft := 3) rfl aj rfl aC) ?_)
   refine zz0 (aJ rfl aN) ?_
   refine zz0 (zz2 (off := 0) (ft := 26) rfl cn rfl dj) ?_
   refine zz0 (dI rfl rfl co ak (by omega)) ?_
   refine zz0 (gw (vs := bU.enc (s.get i.a)) rfl (by repeat constructor) aK ak (kV ⟨by omega, by omega⟩ (by simp)) rfl) ?_
   obtain ⟨x, hx⟩ : ∃ x, x = s.get i.a := ⟨_, rfl⟩
   rw [← hx]
   refine dD cK rfl (fun b5 => ?_)
   refine aF bU rfl rfl ak ?_
   refine ad (al (af (zz0 (bI rfl aK ak) ?_)))
   refine zz0 (aA rfl Tryz.call40 (fun w hw => tN _ w)) ?_
   refine zz0 (cN rfl) (zz0 (aa rfl) ?_)
   apply dB
   ·exact (rfl : _ = (3, 34, 37))
   ·exact rfl
   ·intro hF6; have hF6' := hF6
    try simp only [bs] at hF6'
    refine zz5 hF6 (zz2 (off := 0) (ft := 4) rfl au rfl bW) ?_
    refine zz5 hF6 (aJ rfl cB) ?_
    refine zz0 (aR rfl hF6 rfl) ?_
    refine aB (ac ?_)
    exact aH (Sub.cons rfl (zz9 3 rfl))
   ·intro hT6
    refine zz8 hT6 (zz8 hT6 (zz0 (aQ rfl hT6 rfl) ?_))
    refine aB (ac ?_)
    exact aH (Sub.cons rfl (zz9 3 rfl))
   refine zz0 (aa rfl) ?_
   apply dB
   ·exact (rfl : _ = (3, 38, 41))
   ·exact rfl
   ·intro hF7; have hF7' := hF7
    try simp only [bs] at hF7'
    refine zz5 hF7 (zz2 (off := 1) (ft := 4) rfl au rfl bW) ?_
    refine zz5 hF7 (aJ rfl cB) ?_
    refine zz0 (aR rfl hF7 rfl) ?_
    refine aB (ac ?_)
    exact aH (Sub.cons rfl (zz9 3 rfl))
   ·intro hT7
    refine zz8 hT7 (zz8 hT7 (zz0 (aQ rfl hT7 rfl) ?_))
    refine aB (ac ?_)
    exact aH (Sub.cons rfl (zz9 3 rfl))
   refine ad ?_
   refine an rfl ?_ ?_ <;> intro h8 <;> try simp only [bs] at h8
   ·have hq3 := h8
    refine af (zz0 (ab rfl) (zz0 (ab rfl) (ad (az (ay ?_)))))
    refine df gV rfl rfl (fun w' hw => ?_)
    have e : dm l i x = ([], 19) := by
     unfold dm
     rw [if_neg (by rw [hq1]; simp)]
     rw [if_neg (fun q => q hq2)]
     rw [if_pos (by rcases hq3 with (q | q) | q <;> simp_all)]
    exact ⟨.slice none 0 0, by rw [e], hw.b0, by rw [e]; exact eW rfl⟩
   ·have hq3 := h8
    refine dh (zz0 (aa rfl) (zz0 (bO (vs := [(0, _)]) rfl rfl rfl) ?_))
    refine dD Tryz.zeroValue92 rfl (fun b9 => ?_)
    refine zz6 rfl rfl i6 ?_
    refine ad (al (af (zz0 (zz2 (off := 2) (ft := 3) rfl aj rfl aC) ?_)))
    refine zz0 (aJ rfl aN) ?_
    refine zz0 (fU rfl rfl) (ad ?_)
    refine an rfl ?_ ?_ <;> intro h10 <;> try simp only [bs] at h10
    ·have hqo : i.op ≠ 22 := h10
     refine af (zz0 (bI rfl aK ak) ?_)
     refine gX (fun V => .tuple #[V, .int .i64 (fc x).2]) rfl Tryz.call41 (fun w hw => sO x w) rfl (fun VE => ?_)
     refine zz0 (aa rfl) (zz0 (aO rfl rfl) (zz0 (aO rfl rfl) (zz0 (ab rfl) (zz0 (ab rfl) (ad (al (af (zz0 (aa rfl) (zz0 (fU rfl rfl) (zz0 (aa rfl) ?_))))))))))
     apply dB
     ·exact (rfl : _ = (6, 54, 60))
     ·exact rfl
     ·intro hF11; have hF11' := hF11
      try simp only [bs] at hF11'
      refine zz5 hF11 (aa rfl) (zz5 hF11 (bI rfl l4 i6) ?_)
      refine zz5 hF11 (fu rfl rfl) ?_
      refine uV rfl rfl hF11 ?_
      refine jW (fun b : Nat => .func (.func 102) #[] #[.pointer (some ⟨b, 0, none⟩)]) (fun b => [cellE b [.func (.func 44) #[.agg #[(.slice pV l.length cV)]] #[]] 95]) (ok := fun _ => True) rfl Tryz.call43 (fun w hw => Hg l pV cV w) rfl (fun bf _ => ?_)
      refine zz5 hF11 (aA rfl Tryz.call42 (fun w hw => si (fc x).1 VE _ [.pointer (some ⟨bf, 0, none⟩)] w (hw.row (by repeat constructor)) Tryz.call102 (fun a => !Cd l a) (fun y hy w'' h => FT l pV cV y bf w'' ((hw.slF hV').mono h.hp) hB (cellE.cell (hw.ent _ (by repeat constructor)) h rfl)))) ?_
      refine zz0 (aR rfl hF11 rfl) ?_
      refine aB (ac ?_)
      exact aH (Sub.cons rfl (zz9 6 rfl))
     ·intro hT11
      refine zz8 hT11 (zz8 hT11 (zz8 hT11 (zz8 hT11 (zz8 hT11 (zz0 (aQ rfl hT11 rfl) ?_)))))
      refine aB (ac ?_)
      exact aH (Sub.cons rfl (zz9 6 rfl))
     refine ad ?_
     refine an rfl ?_ ?_ <;> intro h12 <;> try simp only [bs] at h12
     ·have hq6 := h12
      refine af (zz0 (ab rfl) (zz0 (ab rfl) (ad (az (ay (ay ?_))))))
      refine df gV rfl rfl (fun w' hw => ?_)
      have e : dm l i x = ([], 19) := by
       unfold dm
       rw [if_neg (by rw [hq1]; simp)]
       rw [if_neg (fun q => q hq2)]
       rw [if_neg (show ¬((iU x = false ∨ x.em = true) ∨ x.top = true) from fun q => by rcases q with (q | q) | q <;> simp_all)]
       rw [if_pos hqo, if_pos (by rcases hq6 with q | q <;> simp_all)]
      exact ⟨.slice none 0 0, by rw [e], hw.b0, by rw [e]; exact eW rfl⟩
     ·have hq6 := h12
      refine dh (zz0 (aa rfl) (zz0 (ab rfl) (zz0 (ab rfl) (ad (az (ay ?_))))))
      refine df gV rfl rfl (fun w' hw => ?_)
      have e : dm l i x = ((fc x).1, 0) := by
       unfold dm
       rw [if_neg (by rw [hq1]; simp)]
       rw [if_neg (fun q => q hq2)]
       rw [if_neg (show ¬((iU x = false ∨ x.em = true) ∨ x.top = true) from fun q => by rcases q with (q | q) | q <;> simp_all)]
       rw [if_pos hqo, if_neg (by simp_all)]
      exact ⟨VE, by rw [e]; rfl, hw.b0, by rw [e]; exact hw.new (by repeat constructor)⟩
    ·have hqo : i.op = 22 := by simpa using h10
     refine bA (al (af (zz0 (zz2 (off := 3) (ft := 23) rfl au rfl ae) ?_)))
     refine zz0 (aJ rfl am) ?_
     refine zz0 (nA (n := 64) rfl rfl) ?_
     refine ad ?_
     refine an rfl ?_ ?_ <;> intro h13 <;> try simp only [bs] at h13
     ·have hq4 : 64 ≤ x.hi := h13
      refine af (zz0 (ab rfl) (zz0 (ab rfl) (ad (az (ay ?_)))))
      refine df gV rfl rfl (fun w' hw => ?_)
      have e : dm l i x = ([], 19) := by
       unfold dm
       rw [if_neg (by rw [hq1]; simp)]
       rw [if_neg (fun q => q hq2)]
       rw [if_neg (show ¬((iU x = false ∨ x.em = true) ∨ x.top = true) from fun q => by rcases q with (q | q) | q <;> simp_all)]
       rw [if_neg (fun q => q hqo), if_pos hq4]
      exact ⟨.slice none 0 0, by rw [e], hw.b0, by rw [e]; exact eW rfl⟩
     ·have hq4 : x.hi < 64 := by have := h13; rw [UInt32.not_le] at this; exact this
      refine dh (zz0 (ab rfl) (ad (al (af (zz0 (zz2 (off := 3) (ft := 23) rfl au rfl ae) ?_)))))
      refine zz0 (aJ rfl am) ?_
      refine zz0 (fY (n := 1) rfl rfl) ?_
      refine zz0 (aa rfl) (ad (aD (cj 23 ar ?_)))
      refine bK (ι := Nat × List UInt32 × Value) (fun ⟨j, out, Vo⟩ => j ≤ x.hi.toNat + 1 ∧ oJ l i.imm x j = some out) (fun _ => _) (fun ⟨j, out, Vo⟩ => [rowE Vo 23 ar out, cellE b9 [(.slice pV l.length cV)] 92, cellE b5 (bU.enc x) 25, cellE b2 (cH.enc s) 37, cellE b1 (aP.enc i) 36]) (fun ⟨j, out, Vo⟩ => [(68, .int .u32 (u32 (j : Int)).toNat), (13, Vo)]) (fun ⟨j, out, Vo⟩ => 65 - j) (0, [], _) ⟨Nat.zero_le _, rfl⟩ (Front.c (Front.c Front.nil)) (by repeat' constructor) rfl (fun i hi m hm => ?_)
      obtain ⟨j, out, Vo⟩ := i
      replace hi : j ≤ x.hi.toNat + 1 ∧ oJ l i.imm x j = some out := hi
      replace hm : m = 65 - j := hm
      change Tr _ _ [rowE Vo 23 ar out, cellE b9 [(.slice pV l.length cV)] 92, cellE b5 (bU.enc x) 25, cellE b2 (cH.enc s) 37, cellE b1 (aP.enc i) 36] ([(68, .int .u32 (u32 (j : Int)).toNat), (13, Vo)] ++ _) _
      obtain ⟨hj, hto⟩ := hi
      have hol := tP hto
      have h64 : x.hi.toNat < 64 := by rw [UInt32.lt_iff_toNat_lt] at hq4; exact hq4
      refine af (zz0 (iH rfl rfl) ?_)
      refine ad (al ?_)
      refine an rfl ?_ ?_ <;> intro h14 <;> try simp only [bs] at h14
      ·have hq5 := h14
       refine bA (al (aD (al ?_)))
       have hhs := BE hq4
       have hju := vE (x := (j : Int)) (by omega)
       rw [UInt32.lt_iff_toNat_lt] at hq5
       refine ao (zz0 (aa rfl) (zz0 (ab rfl) (aI (zz0 (aa rfl) (zz0 (ab rfl) (ad ?_))))))
       refine db (ι := UInt32) (fun k1 => k1 = wS x (u32 (j : Int))) (fun _ => Bg.of w) (fun k1 => [rowE Vo 23 ar out, cellE b9 [(.slice pV l.length cV)] 92, cellE b5 (bU.enc x) 25, cellE b2 (cH.enc s) 37, cellE b1 (aP.enc i) 36]) (fun k1 => [(15, .int .u32 k1.toNat)]) ?_ (fun k1 hi => ?_)
       ·skip
        refine af (zz0 (bI rfl aK ak) ?_)
        refine zz0 (aa rfl) (zz0 (aA rfl pO (fun w hw => my x _ w)) ?_)
        refine zz0 (cN rfl) (ad ?_)
        refine an rfl ?_ ?_ <;> intro h15 <;> try simp only [bs] at h15
        ·refine ao (zz0 (zz2 (off := 2) (ft := 23) rfl au rfl ae) ?_)
         refine zz0 (aJ rfl am) ?_
         refine zz0 (ab rfl) (ad ?_)
         refine cw _ (Front.c Front.nil) (bB 7 rfl) (o := (by show _ = _; unfold wS; rw [if_neg (by simp_all)]))
        ·refine bA ?_
         refine cw _ (Front.c Front.nil) (bB 4 rfl) (o := (by show _ = _; unfold wS; rw [if_pos (by simp_all)]))
       ·skip
        replace hi : k1 = wS x (u32 (j : Int)) := hi
        change Tr _ _ [rowE Vo 23 ar out, cellE b9 [(.slice pV l.length cV)] 92, cellE b5 (bU.enc x) 25, cellE b2 (cH.enc s) 37, cellE b1 (aP.enc i) 36] ([(15, .int .u32 k1.toNat)] ++ _) _
        refine af (zz0 (bI rfl l4 i6) ?_)
        refine zz0 (zz2 (off := 1) (ft := 23) rfl aj rfl ae) ?_
        refine zz0 (aJ rfl am) ?_
        refine zz0 (aa rfl) (zz0 (aA rfl Tryz.call45 (fun w hw => zl l pV cV i.imm k1 w (hw.slF hV') hB (hD'.mono hw.bg))) ?_)
        refine zz0 (aa rfl) (zz0 (aO rfl rfl) (zz0 (aO rfl rfl) (zz0 (ab rfl) (zz0 (ab rfl) (ad (al (af (zz0 (aa rfl) (zz0 (cN rfl) (ad ?_))))))))))
        refine an rfl ?_ ?_ <;> intro h16 <;> try simp only [bs] at h16
        ·have hq7 : (iP l i.imm k1).2 = false := h16
         refine af (zz0 (ab rfl) (zz0 (ab rfl) (ad (az (ay (bh (ay (ay (bh (ay ?_))))))))))
         refine df gV rfl rfl (fun w' hw => ?_)
         have htn := Ce (FB hto (by rw [← hi]; exact hq7)) (x.hi.toNat + 1) (by omega)
         have e : dm l i x = ([], 19) := by
          unfold dm
          rw [if_neg (by rw [hq1]; simp)]
          rw [if_neg (fun q => q hq2)]
          rw [if_neg (show ¬((iU x = false ∨ x.em = true) ∨ x.top = true) from fun q => by rcases q with (q | q) | q <;> simp_all)]
          rw [if_neg (fun q => q hqo), if_neg (by rw [UInt32.not_le]; exact hq4), htn]
         exact ⟨.slice none 0 0, by rw [e], hw.b0, by rw [e]; exact eW rfl⟩
        ·have hq7 : (iP l i.imm k1).2 = true := by simpa using h16
         refine bA (ao (zz0 (aa rfl) (zz0 (aa rfl) ?_)))
         refine js (E := ar) (iP l i.imm k1).1 rfl rfl ah ae cU (fun V17 => ?_)
         refine zz1 rfl rfl ah eX (fun V18 => ?_)
         refine zz0 (ab rfl) (aB (aX (ac (ao (zz0 (fY (n := 1) rfl rfl) ?_)))))
         refine zz0 (aa rfl) (ad ?_)
         rw [Dt (by omega)]
         refine cC (j + 1, out ++ [(iP l i.imm k1).1], _) (Front.c (Front.c Front.nil)) (bB 27 rfl) (o := ⟨by omega, by rw [hi]; exact Dw hto (by rw [← hi]; exact hq7)⟩)
      ·have hq5 := h14
       refine bF (aG (aG (bj (ac (al ?_)))))
       have hhs := BE hq4
       have hju := vE (x := (j : Int)) (by omega)
       rw [UInt32.lt_iff_toNat_lt] at hq5
       obtain rfl : j = x.hi.toNat + 1 := by omega
       refine ao (zz0 (aa rfl) (zz0 (ab rfl) (zz0 (ab rfl) (ad (az ?_)))))
       refine df gV rfl rfl (fun w' hw => ?_)
       have e : dm l i x = (out, 0) := by
        unfold dm
        rw [if_neg (by rw [hq1]; simp)]
        rw [if_neg (fun q => q hq2)]
        rw [if_neg (show ¬((iU x = false ∨ x.em = true) ∨ x.top = true) from fun q => by rcases q with (q | q) | q <;> simp_all)]
        rw [if_neg (fun q => q hqo), if_neg (by rw [UInt32.not_le]; exact hq4), hto]
       exact ⟨Vo, by rw [e], hw.b0, by rw [e]; exact hw.new (by repeat constructor)⟩
theorem qn (l : List SecV) (pV : Option Addr) (cV : Nat) (a : UInt32) (n : Int) (w : World) (hV : Sl (hp w) cR l (.slice pV l.length cV)) (hB : SecB l) (hD : DataIn (hp w) l) (hN : ∀ s ∈ l, s.name.size ≤ 140737488351232) :
  Calls Tryz.prog 23 #[(.slice pV l.length cV), .int .u32 a.toNat, .int .i64 n] w (fun e w' => e = .returned (.bool (mK l a n)) ∧ Ext w w') := by
 have hV' : Sl (Bg.of w).blk cR l (.slice pV l.length cV) := hV
 have hD' : DataIn (Bg.of w).blk l := hD
 refine enter Tryz.func23 rfl Tryz.ntmps23 rfl ?_
 refine af (zz0 (ab rfl) (ad (al (af (zz0 (aa rfl) (zz0 (bP rfl rfl) (zz0 (aa rfl) ?_)))))))
 apply dB
 ·exact (rfl : _ = (3, 13, 16))
 ·exact rfl
 ·intro hF1; have hF1' := hF1
  try simp only [bs] at hF1'
  refine zz5 hF1 (aa rfl) (zz5 hF1 (eo rfl rfl) (zz0 (aR rfl hF1 rfl) ?_))
  refine aB (ac ?_)
  exact aH (Sub.cons rfl (zz9 3 rfl))
 ·intro hT1
  refine zz8 hT1 (zz8 hT1 (zz0 (aQ rfl hT1 rfl) ?_))
  refine aB (ac ?_)
  exact aH (Sub.cons rfl (zz9 3 rfl))
 refine zz0 (aa rfl) ?_
 apply dB
 ·exact (rfl : _ = (4, 17, 21))
 ·exact rfl
 ·intro hF2; have hF2' := hF2
  try simp only [bs] at hF2'
  refine zz5 hF2 (aa rfl) (zz5 hF2 (aA rfl Tryz.call39 (fun w hw => sn l (.slice pV l.length cV) w (hw.slF hV') hB (fun s hs => by have := hN s hs; omega))) ?_)
  refine zz5 hF2 (fU rfl rfl) (zz0 (aR rfl hF2 rfl) ?_)
  refine aB (ac ?_)
  exact aH (Sub.cons rfl (zz9 4 rfl))
 ·intro hT2
  refine zz8 hT2 (zz8 hT2 (zz8 hT2 (zz0 (aQ rfl hT2 rfl) ?_)))
  refine aB (ac ?_)
  exact aH (Sub.cons rfl (zz9 4 rfl))
 refine ad ?_
 refine an rfl ?_ ?_ <;> intro h3 <;> try simp only [bs] at h3
 ·have hq1 := h3
  refine af (zz0 (ab rfl) (ad (az (ay ?_))))
  refine aT Tryz.results23 rfl (fun w' hw => ?_)
  exact ⟨by unfold mK; rw [if_pos (by omega)], hw.b0⟩
 ·have hq1 := h3
  refine dh (zz0 (aa rfl) (zz0 (bO (vs := [(0, _)]) rfl rfl rfl) ?_))
  refine dD Tryz.zeroValue92 rfl (fun b4 => ?_)
  refine zz6 rfl rfl i6 ?_
  refine ad (al (af (zz0 (aa rfl) (zz0 (aa rfl) (ad (aD ?_))))))
  refine bK (ι := Nat) (fun j => (j : Int) ≤ n ∧ jO l a j = true) (fun _ => _) (fun j => [cellE b4 [(.slice pV l.length cV)] 92]) (fun j => [(25, .int .i64 (j : Nat))]) (fun j => n.toNat - j) 0 ⟨by omega, rfl⟩ (Front.c Front.nil) (by repeat' constructor) rfl (fun j hi m hm => ?_)
  replace hi : (j : Int) ≤ n ∧ jO l a j = true := hi
  replace hm : m = n.toNat - j := hm
  change Tr _ _ [cellE b4 [(.slice pV l.length cV)] 92] ([(25, .int .i64 (j : Nat))] ++ _) _
  obtain ⟨hj, hto⟩ := hi
  refine af (zz0 (bP rfl rfl) (ad (al ?_)))
  refine an rfl ?_ ?_ <;> intro h5 <;> try simp only [bs] at h5
  ·refine bA (al (aD (af (zz0 (aa rfl) (zz0 (ab rfl) (aI (zz0 (bI rfl l4 i6) ?_)))))))
   refine zz0 (aa rfl) (zz0 (aa rfl) (zz0 (g8 rfl aY aL) (zz0 (aA rfl Tryz.call45 (fun w hw => zl l pV cV a _ w (hw.slF hV') hB (hD'.mono hw.bg))) ?_)))
   refine zz0 (aa rfl) (zz0 (aO rfl rfl) (zz0 (aO rfl rfl) (zz0 (ab rfl) (zz0 (ab rfl) (aI (zz0 (aa rfl) (zz0 (cN rfl) (ad ?_))))))))
   refine an rfl ?_ ?_ <;> intro h6 <;> try simp only [bs] at h6
   ·have hq2 : (iP l a (u32 (j : Int))).2 = false := h6
    refine af (zz0 (ab rfl) (ad (az (bh (ay (ay (bh (ay ?_))))))))
    refine aT Tryz.results23 rfl (fun w' hw => ?_)
    have hf := sK (show jO l a (j + 1) = false by simp only [jO, hq2, Bool.and_false]) n.toNat (by omega)
    exact ⟨by unfold mK; rw [if_neg (by omega), hf], hw.b0⟩
   ·have hq2 : (iP l a (u32 (j : Int))).2 = true := by simpa using h6
    refine cd (aX (ac (ao (zz0 (cp rfl rfl) ?_))))
    refine zz0 (aa rfl) (ad ?_)
    refine cC (j + 1) (Front.c Front.nil) (bB 18 rfl) (o := ⟨by omega, by simp only [jO, hto, hq2, Bool.and_self]⟩)
  ·refine bF (aG (aG (bj (ac (af (zz0 (ab rfl) (ad (az ?_))))))))
   refine aT Tryz.results23 rfl (fun w' hw => ?_)
   exact ⟨by unfold mK; rw [if_neg (by omega), show n.toNat = j by omega, hto], hw.b0⟩
end Go.Proofs.YtiajjbhcpeadfaaGreat
