/- Own rules and walks, part 8. -/
import Derived.Test.YtiajjbhcpeadfaaGreatB7
set_option linter.unusedSimpArgs false
set_option linter.unusedVariables false
set_option linter.unusedSectionVars false
set_option maxRecDepth 100000
set_option maxHeartbeats 16000000
attribute [local irreducible] Go.wpList Go.Code.wp Go.HL.QS Go.HL.Tr Go.HL.TrQ Go.wpQuiet
namespace Go.Proofs.YtiajjbhcpeadfaaGreat
open Go Go.HL Go.RowKit Tryz
theorem LL (a:UInt32) (w:World) :
  Cr prog 336 #[.int .u32 a.toNat] w (.bool (G3 a)):=by
 refine En f336 rfl rfl (zR8 ?_)
 refine zz0 (jA (n:=2147483648) rfl rfl) (zR4 ?_)
 exact aD (e:=rfl)
theorem LA (a b:UInt32) (w:World) :
  Cr prog 332 #[.int .u32 a.toNat,.int .u32 b.toNat] w (.int .u32 (jt a (d6 b)).toNat):=by
 have hcl:=cnt_lt b
 have hcn:(b % 32).toNat=d6 b:=rfl
 refine En f332 rfl rfl (df ?_)
 refine cP (.of (ι:=Nat) (fun k=>k≤d6 b) (fun _=>_) (fun k=>[]) (fun k=>[(0,.int .u32 (jt a k).toNat),(5,.int .u32 (UInt32.ofNat k).toNat)]) (fun k=>d6 b - k)) 0 (Nat.zero_le _) (.cons (by first|rfl|exact az rfl (by omega)|exact az rfl (by rw [xC])|exact az rfl (by rw [qE])|exact az rfl (by rw [show UInt32.ofNat k+1=UInt32.ofNat (k+1) from by rw [← UInt32.toNat_inj]; simp only [UInt32.toNat_add,UInt32.toNat_ofNat',UInt32.toNat_one]; omega])|exact az rfl (by simp)|exact bU rfl (by simp)) (.cons (by first|rfl|exact az rfl (by omega)|exact az rfl (by rw [xC])|exact az rfl (by rw [qE])|exact az rfl (by rw [show UInt32.ofNat k+1=UInt32.ofNat (k+1) from by rw [← UInt32.toNat_inj]; simp only [UInt32.toNat_add,UInt32.toNat_ofNat',UInt32.toNat_one]; omega])|exact az rfl (by simp)|exact bU rfl (by simp)) Front.nil)) (fun k hi m hm=>?_)
 have hk1:k≤d6 b:=hi
 have hkn:(UInt32.ofNat k).toNat=k:=by rw [UInt32.toNat_ofNat']; omega
 refine zR5 ?_
 refine zz0 (pd (n:=32) rfl rfl) (zR3 ?_)
 refine ab rfl ?_ ?_<;>intro h1
 ·refine zR6 ?_
  refine zz0 (oq (n:=2) rfl rfl) (zR6 ?_)
  refine zz0 (gl (n:=1) rfl rfl) (zR3 ?_)
  have hlt:k<d6 b:=by rw [← hkn,← hcn]; exact UInt32.lt_iff_toNat_lt.1 (by assumption)
  apply dn (k+1)
  ·exact rfl
  ·exact (.cons (by first|rfl|exact az rfl (by omega)|exact az rfl (by rw [xC])|exact az rfl (by rw [qE])|exact az rfl (by rw [show UInt32.ofNat k+1=UInt32.ofNat (k+1) from by rw [← UInt32.toNat_inj]; simp only [UInt32.toNat_add,UInt32.toNat_ofNat',UInt32.toNat_one]; omega])|exact az rfl (by simp)|exact bU rfl (by simp)) (.cons (by first|rfl|exact az rfl (by omega)|exact az rfl (by rw [xC])|exact az rfl (by rw [qE])|exact az rfl (by rw [show UInt32.ofNat k+1=UInt32.ofNat (k+1) from by rw [← UInt32.toNat_inj]; simp only [UInt32.toNat_add,UInt32.toNat_ofNat',UInt32.toNat_one]; omega])|exact az rfl (by simp)|exact bU rfl (by simp)) Front.nil))
  ·exact zz9 12 rfl
  ·exact (by repeat' constructor)
  ·exact (by show k+1≤_; omega)
  exact (by show d6 b - (k+1)<m; omega)
 refine df ?_
 refine aM results332 rfl (fun w' hw=>?_)
 have hk2:k=d6 b:=by
  have q:¬ k<d6 b:=by rw [← hkn,← hcn]; exact fun q=>absurd (UInt32.lt_iff_toNat_lt.2 q) (by assumption)
  omega
 subst hk2
 exact ⟨rfl,hw.b0⟩
theorem Lz (a b:UInt32) (w:World) :
  Cr prog 333 #[.int .u32 a.toNat,.int .u32 b.toNat] w (.int .u32 (jQ a (d6 b)).toNat):=by
 have hcl:=cnt_lt b
 have hcn:(b % 32).toNat=d6 b:=rfl
 refine En f333 rfl rfl (df ?_)
 refine cP (.of (ι:=Nat) (fun k=>k≤d6 b) (fun _=>_) (fun k=>[]) (fun k=>[(0,.int .u32 (jQ a k).toNat),(5,.int .u32 (UInt32.ofNat k).toNat)]) (fun k=>d6 b - k)) 0 (Nat.zero_le _) (.cons (by first|rfl|exact az rfl (by omega)|exact az rfl (by rw [xB])|exact az rfl (by rw [qD])|exact az rfl (by rw [show UInt32.ofNat k+1=UInt32.ofNat (k+1) from by rw [← UInt32.toNat_inj]; simp only [UInt32.toNat_add,UInt32.toNat_ofNat',UInt32.toNat_one]; omega])|exact az rfl (by simp)|exact bU rfl (by simp)) (.cons (by first|rfl|exact az rfl (by omega)|exact az rfl (by rw [xB])|exact az rfl (by rw [qD])|exact az rfl (by rw [show UInt32.ofNat k+1=UInt32.ofNat (k+1) from by rw [← UInt32.toNat_inj]; simp only [UInt32.toNat_add,UInt32.toNat_ofNat',UInt32.toNat_one]; omega])|exact az rfl (by simp)|exact bU rfl (by simp)) Front.nil)) (fun k hi m hm=>?_)
 have hk1:k≤d6 b:=hi
 have hkn:(UInt32.ofNat k).toNat=k:=by rw [UInt32.toNat_ofNat']; omega
 refine zR5 ?_
 refine zz0 (pd (n:=32) rfl rfl) (zR3 ?_)
 refine ab rfl ?_ ?_<;>intro h1
 ·refine zR6 ?_
  refine zz0 (m5 (n:=2) rfl rfl (by first|decide|assumption)) (zR6 ?_)
  refine zz0 (gl (n:=1) rfl rfl) (zR3 ?_)
  have hlt:k<d6 b:=by rw [← hkn,← hcn]; exact UInt32.lt_iff_toNat_lt.1 (by assumption)
  apply dn (k+1)
  ·exact rfl
  ·exact (.cons (by first|rfl|exact az rfl (by omega)|exact az rfl (by rw [xB])|exact az rfl (by rw [qD])|exact az rfl (by rw [show UInt32.ofNat k+1=UInt32.ofNat (k+1) from by rw [← UInt32.toNat_inj]; simp only [UInt32.toNat_add,UInt32.toNat_ofNat',UInt32.toNat_one]; omega])|exact az rfl (by simp)|exact bU rfl (by simp)) (.cons (by first|rfl|exact az rfl (by omega)|exact az rfl (by rw [xB])|exact az rfl (by rw [qD])|exact az rfl (by rw [show UInt32.ofNat k+1=UInt32.ofNat (k+1) from by rw [← UInt32.toNat_inj]; simp only [UInt32.toNat_add,UInt32.toNat_ofNat',UInt32.toNat_one]; omega])|exact az rfl (by simp)|exact bU rfl (by simp)) Front.nil))
  ·exact zz9 12 rfl
  ·exact (by repeat' constructor)
  ·exact (by show k+1≤_; omega)
  exact (by show d6 b - (k+1)<m; omega)
 refine df ?_
 refine aM results333 rfl (fun w' hw=>?_)
 have hk2:k=d6 b:=by
  have q:¬ k<d6 b:=by rw [← hkn,← hcn]; exact fun q=>absurd (UInt32.lt_iff_toNat_lt.2 q) (by assumption)
  omega
 subst hk2
 exact ⟨rfl,hw.b0⟩
theorem LC (a b:UInt32) (w:World) :
  Cr prog 334 #[.int .u32 a.toNat,.int .u32 b.toNat] w (.int .u32 (xl a (d6 b)).toNat):=by
 have hcl:=cnt_lt b
 have hcn:(b % 32).toNat=d6 b:=rfl
 refine En f334 rfl rfl (jk ?_)
 refine zz0 (ak rfl (LL a)) (zR2 ?_)
 refine ab rfl ?_ ?_<;>intro h1
 ·refine zR6 ?_
  first|(have htop:xj a=2147483648:=by unfold xj; rw [if_pos (by assumption)])|(have htop:xj a=0:=by unfold xj; rw [if_neg (by simp_all)])
  refine zR5 ?_
  refine cP (.of (ι:=Nat) (fun k=>k≤d6 b) (fun _=>_) (fun k=>[]) (fun k=>[(0,.int .u32 (xl a k).toNat),(6,.int .u32 (UInt32.ofNat k).toNat)]) (fun k=>d6 b - k)) 0 (Nat.zero_le _) (.cons (by first|rfl|exact az rfl (by omega)|exact az rfl (by rw [wH])|exact az rfl (by rw [mS])|exact az rfl (by rw [show UInt32.ofNat k+1=UInt32.ofNat (k+1) from by rw [← UInt32.toNat_inj]; simp only [UInt32.toNat_add,UInt32.toNat_ofNat',UInt32.toNat_one]; omega])|exact az rfl (by simp)|exact bU rfl (by simp)) (.cons (by first|rfl|exact az rfl (by omega)|exact az rfl (by rw [wH])|exact az rfl (by rw [mS])|exact az rfl (by rw [show UInt32.ofNat k+1=UInt32.ofNat (k+1) from by rw [← UInt32.toNat_inj]; simp only [UInt32.toNat_add,UInt32.toNat_ofNat',UInt32.toNat_one]; omega])|exact az rfl (by simp)|exact bU rfl (by simp)) Front.nil)) (fun k hi m hm=>?_)
  have hk1:k≤d6 b:=hi
  have hkn:(UInt32.ofNat k).toNat=k:=by rw [UInt32.toNat_ofNat']; omega
  refine zR5 ?_
  refine zz0 (pd (n:=32) rfl rfl) (zR3 ?_)
  refine ab rfl ?_ ?_<;>intro h2
  ·refine zR6 ?_
   refine zz0 (m5 (n:=2) rfl rfl (by first|decide|assumption)) (zz0 (af rfl) ?_)
   refine zz0 (gl (n:=xj a) rfl (by rw [htop]; rfl)) (zR6 ?_)
   refine zz0 (gl (n:=1) rfl rfl) (zR3 ?_)
   have hlt:k<d6 b:=by rw [← hkn,← hcn]; exact UInt32.lt_iff_toNat_lt.1 (by assumption)
   apply dn (k+1)
   ·exact rfl
   ·exact (.cons (by first|rfl|exact az rfl (by omega)|exact az rfl (by rw [wH])|exact az rfl (by rw [mS])|exact az rfl (by rw [show UInt32.ofNat k+1=UInt32.ofNat (k+1) from by rw [← UInt32.toNat_inj]; simp only [UInt32.toNat_add,UInt32.toNat_ofNat',UInt32.toNat_one]; omega])|exact az rfl (by simp)|exact bU rfl (by simp)) (.cons (by first|rfl|exact az rfl (by omega)|exact az rfl (by rw [wH])|exact az rfl (by rw [mS])|exact az rfl (by rw [show UInt32.ofNat k+1=UInt32.ofNat (k+1) from by rw [← UInt32.toNat_inj]; simp only [UInt32.toNat_add,UInt32.toNat_ofNat',UInt32.toNat_one]; omega])|exact az rfl (by simp)|exact bU rfl (by simp)) Front.nil))
   ·exact zz9 14 rfl
   ·exact (by repeat' constructor)
   ·exact (by show k+1≤_; omega)
   exact (by show d6 b - (k+1)<m; omega)
  refine df ?_
  refine aM results334 rfl (fun w' hw=>?_)
  have hk2:k=d6 b:=by
   have q:¬ k<d6 b:=by rw [← hkn,← hcn]; exact fun q=>absurd (UInt32.lt_iff_toNat_lt.2 q) (by assumption)
   omega
  subst hk2
  exact ⟨rfl,hw.b0⟩
 refine zR4 ?_
 first|(have htop:xj a=2147483648:=by unfold xj; rw [if_pos (by assumption)])|(have htop:xj a=0:=by unfold xj; rw [if_neg (by simp_all)])
 refine zR5 ?_
 refine cP (.of (ι:=Nat) (fun k=>k≤d6 b) (fun _=>_) (fun k=>[]) (fun k=>[(0,.int .u32 (xl a k).toNat),(6,.int .u32 (UInt32.ofNat k).toNat)]) (fun k=>d6 b - k)) 0 (Nat.zero_le _) (.cons (by first|rfl|exact az rfl (by omega)|exact az rfl (by rw [wH])|exact az rfl (by rw [mS])|exact az rfl (by rw [show UInt32.ofNat k+1=UInt32.ofNat (k+1) from by rw [← UInt32.toNat_inj]; simp only [UInt32.toNat_add,UInt32.toNat_ofNat',UInt32.toNat_one]; omega])|exact az rfl (by simp)|exact bU rfl (by simp)) (.cons (by first|rfl|exact az rfl (by omega)|exact az rfl (by rw [wH])|exact az rfl (by rw [mS])|exact az rfl (by rw [show UInt32.ofNat k+1=UInt32.ofNat (k+1) from by rw [← UInt32.toNat_inj]; simp only [UInt32.toNat_add,UInt32.toNat_ofNat',UInt32.toNat_one]; omega])|exact az rfl (by simp)|exact bU rfl (by simp)) Front.nil)) (fun k hi m hm=>?_)
 have hk1:k≤d6 b:=hi
 have hkn:(UInt32.ofNat k).toNat=k:=by rw [UInt32.toNat_ofNat']; omega
 refine zR5 ?_
 refine zz0 (pd (n:=32) rfl rfl) (zR3 ?_)
 refine ab rfl ?_ ?_<;>intro h3
 ·refine zR6 ?_
  refine zz0 (m5 (n:=2) rfl rfl (by first|decide|assumption)) (zz0 (af rfl) ?_)
  refine zz0 (gl (n:=xj a) rfl (by rw [htop]; rfl)) (zR6 ?_)
  refine zz0 (gl (n:=1) rfl rfl) (zR3 ?_)
  have hlt:k<d6 b:=by rw [← hkn,← hcn]; exact UInt32.lt_iff_toNat_lt.1 (by assumption)
  apply dn (k+1)
  ·exact rfl
  ·exact (.cons (by first|rfl|exact az rfl (by omega)|exact az rfl (by rw [wH])|exact az rfl (by rw [mS])|exact az rfl (by rw [show UInt32.ofNat k+1=UInt32.ofNat (k+1) from by rw [← UInt32.toNat_inj]; simp only [UInt32.toNat_add,UInt32.toNat_ofNat',UInt32.toNat_one]; omega])|exact az rfl (by simp)|exact bU rfl (by simp)) (.cons (by first|rfl|exact az rfl (by omega)|exact az rfl (by rw [wH])|exact az rfl (by rw [mS])|exact az rfl (by rw [show UInt32.ofNat k+1=UInt32.ofNat (k+1) from by rw [← UInt32.toNat_inj]; simp only [UInt32.toNat_add,UInt32.toNat_ofNat',UInt32.toNat_one]; omega])|exact az rfl (by simp)|exact bU rfl (by simp)) Front.nil))
  ·exact zz9 14 rfl
  ·exact (by repeat' constructor)
  ·exact (by show k+1≤_; omega)
  exact (by show d6 b - (k+1)<m; omega)
 refine df ?_
 refine aM results334 rfl (fun w' hw=>?_)
 have hk2:k=d6 b:=by
  have q:¬ k<d6 b:=by rw [← hkn,← hcn]; exact fun q=>absurd (UInt32.lt_iff_toNat_lt.2 q) (by assumption)
  omega
 subst hk2
 exact ⟨rfl,hw.b0⟩
theorem uw (x:Bool) (w:World) :
  Cr prog 335 #[.bool x] w (.int .u32 (s7 x).toNat):=by
 refine En f335 rfl rfl (cj ?_)
 refine ab rfl ?_ ?_<;>intro h1
 ·refine zR7 ?_
  exact aD (e:=by rw [show x=true by assumption]; rfl)
 refine zR8 ?_
 exact aD (e:=by rw [show x=false by assumption]; rfl)
theorem LZ (op:Int) (a b:UInt32) (w:World) :
  Cr prog 317 #[.int .i64 op,.int .u32 a.toNat,.int .u32 b.toNat] w (.tuple #[.int .u32 (oz op a b).1.toNat,.int .i64 (oz op a b).2]):=by
 refine En f317 rfl rfl (K8 ?_)
 refine ab rfl ?_ ?_<;>intro h1
 ·refine df ?_
  refine dR (e:=?_)
  unfold oz sf
  first|(rw [if_pos (by omega)]; done)|(rw [if_pos (by omega)]; rfl)|(rw [if_neg (by omega)]; (repeat (first|rw [if_pos (by assumption)]|rw [if_neg (by assumption)])); (try rfl))
 refine zR6 ?_
 refine ab rfl ?_ ?_<;>intro h2
 ·refine df ?_
  refine dR (e:=?_)
  unfold oz sf
  first|(rw [if_pos (by omega)]; done)|(rw [if_pos (by omega)]; rfl)|(rw [if_neg (by omega)]; (repeat (first|rw [if_pos (by assumption)]|rw [if_neg (by assumption)])); (try rfl))
 refine zR6 ?_
 refine ab rfl ?_ ?_<;>intro h3
 ·refine df ?_
  refine dR (e:=?_)
  unfold oz sf
  first|(rw [if_pos (by omega)]; done)|(rw [if_pos (by omega)]; rfl)|(rw [if_neg (by omega)]; (repeat (first|rw [if_pos (by assumption)]|rw [if_neg (by assumption)])); (try rfl))
 refine zR6 ?_
 refine ab rfl ?_ ?_<;>intro h4
 ·refine df ?_
  refine dR (e:=?_)
  unfold oz sf
  first|(rw [if_pos (by omega)]; done)|(rw [if_pos (by omega)]; rfl)|(rw [if_neg (by omega)]; (repeat (first|rw [if_pos (by assumption)]|rw [if_neg (by assumption)])); (try rfl))
 refine zR6 ?_
 refine ab rfl ?_ ?_<;>intro h5
 ·refine zR4 ?_
  refine zz0 (sU rfl rfl) (zR7 ?_)
  refine dR (e:=?_)
  unfold oz sf
  first|(rw [if_pos (by omega)]; done)|(rw [if_pos (by omega)]; rfl)|(rw [if_neg (by omega)]; (repeat (first|rw [if_pos (by assumption)]|rw [if_neg (by assumption)])); (try rfl))
 refine zR6 ?_
 refine ab rfl ?_ ?_<;>intro h6
 ·refine zR4 ?_
  refine zz0 (Gx rfl rfl) (zR7 ?_)
  refine dR (e:=?_)
  unfold oz sf
  first|(rw [if_pos (by omega)]; done)|(rw [if_pos (by omega)]; rfl)|(rw [if_neg (by omega)]; (repeat (first|rw [if_pos (by assumption)]|rw [if_neg (by assumption)])); (try rfl))
 refine zR6 ?_
 refine ab rfl ?_ ?_<;>intro h7
 ·refine zR4 ?_
  refine zz0 (ak rfl (LA a b)) (zR7 ?_)
  refine dR (e:=?_)
  unfold oz sf
  first|(rw [if_pos (by omega)]; done)|(rw [if_pos (by omega)]; rfl)|(rw [if_neg (by omega)]; (repeat (first|rw [if_pos (by assumption)]|rw [if_neg (by assumption)])); (try rfl))
 refine zR6 ?_
 refine ab rfl ?_ ?_<;>intro h8
 ·refine zR4 ?_
  refine zz0 (ak rfl (Lz a b)) (zR7 ?_)
  refine dR (e:=?_)
  unfold oz sf
  first|(rw [if_pos (by omega)]; done)|(rw [if_pos (by omega)]; rfl)|(rw [if_neg (by omega)]; (repeat (first|rw [if_pos (by assumption)]|rw [if_neg (by assumption)])); (try rfl))
 refine zR6 ?_
 refine ab rfl ?_ ?_<;>intro h9
 ·refine zR4 ?_
  refine zz0 (ak rfl (LC a b)) (zR7 ?_)
  refine dR (e:=?_)
  unfold oz sf
  first|(rw [if_pos (by omega)]; done)|(rw [if_pos (by omega)]; rfl)|(rw [if_neg (by omega)]; (repeat (first|rw [if_pos (by assumption)]|rw [if_neg (by assumption)])); (try rfl))
 refine zR6 ?_
 refine ab rfl ?_ ?_<;>intro h10
 ·refine zR5 ?_
  refine zz0 (ak rfl (uw (decide (a=b)))) (zR7 ?_)
  refine dR (e:=?_)
  unfold oz sf
  first|(rw [if_pos (by omega)]; done)|(rw [if_pos (by omega)]; rfl)|(rw [if_neg (by omega)]; (repeat (first|rw [if_pos (by assumption)]|rw [if_neg (by assumption)])); (try rfl))
 refine zR6 ?_
 refine ab rfl ?_ ?_<;>intro h11
 ·refine zR4 ?_
  refine zz0 (jz rfl rfl) ?_
  refine zz0 (ak rfl (uw (decide (a≠b)))) (zR7 ?_)
  refine dR (e:=?_)
  unfold oz sf
  first|(rw [if_pos (by omega)]; done)|(rw [if_pos (by omega)]; rfl)|(rw [if_neg (by omega)]; (repeat (first|rw [if_pos (by assumption)]|rw [if_neg (by assumption)])); (try rfl))
 refine zR6 ?_
 refine ab rfl ?_ ?_<;>intro h12
 ·refine dx (zz0 (af rfl) (zz0 (mn rfl ac io) (zz0 (af rfl) (zz0 (mn rfl ac io) (zz0 (su rfl rfl) (zz0 (ak rfl (uw (CO a b))) (zR7 ?_)))))))
  refine dR (e:=?_)
  unfold oz sf
  first|(rw [if_pos (by omega)]; done)|(rw [if_pos (by omega)]; rfl)|(rw [if_neg (by omega)]; (repeat (first|rw [if_pos (by assumption)]|rw [if_neg (by assumption)])); (try rfl))
 refine zR6 ?_
 refine ab rfl ?_ ?_<;>intro h13
 ·refine zR5 ?_
  refine zz0 (ak rfl (uw (decide (a<b)))) (zR7 ?_)
  refine dR (e:=?_)
  unfold oz sf
  first|(rw [if_pos (by omega)]; done)|(rw [if_pos (by omega)]; rfl)|(rw [if_neg (by omega)]; (repeat (first|rw [if_pos (by assumption)]|rw [if_neg (by assumption)])); (try rfl))
 refine bR ?_
 refine dR (e:=?_)
 unfold oz sf
 first|(rw [if_pos (by omega)]; done)|(rw [if_pos (by omega)]; rfl)|(rw [if_neg (by omega)]; (repeat (first|rw [if_pos (by assumption)]|rw [if_neg (by assumption)])); (try rfl))
theorem N8 (a b:VSet) (w:World) (ha:a.top=false→a.lo.toNat≤a.hi.toNat) (hb:b.top=false→b.lo.toNat≤b.hi.toNat) :
  Cr prog 318 #[.agg (er.enc a).toArray,.agg (er.enc b).toArray] w (.agg (er.enc (if (a.top=true∨b.top=true)∨4294967295<(a.hi.toNat:Int)+b.hi.toNat then iL else bS (a.lo+b.lo) (a.hi+b.hi) (iE a.st b.st))).toArray):=by
 have h1:=a.lo.toNat_lt
 have h2:=a.hi.toNat_lt
 have h3:=b.lo.toNat_lt
 have h4:=b.hi.toNat_lt
 refine En f318 rfl rfl (zR2 ?_)
 refine bJ rfl rfl (fun b1=>?_)
 refine bJ rfl rfl (fun b2=>?_)
 refine bH aJ rfl (fun b3=>zR8 ?_)
 refine cZ 3 7 10 (h2:=?_)
 refine zz0 (af rfl) ?_
 apply gJ 9 11 20 (fun hF5 hF5'=>?_) ?_; rotate_right
 ·refine zR2 ?_
  refine zz5 hF5 (aO rfl ac ad) (zR2 ?_)
  refine zz5 hF5 (aO rfl ac ad) (zz5 hF5 (tn rfl rfl) ?_)
  exact zE
 refine zR2 ?_
 refine ab rfl ?_ ?_<;>intro h6
 ·have hq:=h6
  refine dx (zz0 (ak rfl gp) (zR5 ?_))
  exact aL (e:=by rw [if_pos hq]; rfl)
 have hq:(a.top=false∧b.top=false)∧¬ 4294967295<(a.hi.toNat:Int)+b.hi.toNat:=by simpa using h6
 refine zR3 ?_
 refine dO 0 22 ah ?_
 refine ax (zT2 ?_)
 refine aw (aO rfl ac ad) (zT2 ?_)
 refine aw (aO rfl ac ad) (zT3 ?_)
 refine aw (aO rfl ac ad) (zT2 ?_)
 refine aw (aO rfl ac ad) (zT3 ?_)
 refine aw (aO rfl ac ad) (zT2 ?_)
 refine aw (aO rfl ac ad) (aw (ak rfl (uV a.st b.st)) ?_)
 refine aw (aK rfl (fun w hw=>by have q:=g6 (((a.lo.toNat:Nat):Int)+(b.lo.toNat:Nat)) (((a.hi.toNat:Nat):Int)+(b.hi.toNat:Nat)) ((iE a.st b.st).toNat:Nat) w (by omega) (by omega) (wN _); rw [N7 (ha hq.1.1) (hb hq.1.2) (by have:=hq.2; omega)] at q; exact q)) (zT5 ?_)
 exact aL (e:=by rw [if_neg (fun q=>by rcases q with (q|q)|q<;>simp_all)]; rfl)
theorem OX (a b:VSet) (w:World) :
  Cr prog 319 #[.agg (er.enc a).toArray,.agg (er.enc b).toArray] w (.agg (er.enc (if (a.top=true∨b.top=true)∨a.lo<b.hi then iL else bS (a.lo - b.hi) (a.hi - b.lo) (iE a.st b.st))).toArray):=by
 have h1:=a.lo.toNat_lt
 have h2:=a.hi.toNat_lt
 have h3:=b.lo.toNat_lt
 have h4:=b.hi.toNat_lt
 refine En f319 rfl rfl (zR2 ?_)
 refine bJ rfl rfl (fun b1=>?_)
 refine bJ rfl rfl (fun b2=>?_)
 refine bH aJ rfl (fun b3=>zR8 ?_)
 refine cZ 3 7 10 (h2:=?_)
 refine zz0 (af rfl) ?_
 refine cZ 6 11 17 (h2:=zR2 ?_)
 refine ab rfl ?_ ?_<;>intro h6
 ·have hq:=h6
  refine dx (zz0 (ak rfl gp) (zR5 ?_))
  exact aL (e:=by rw [if_pos hq]; rfl)
 have hq:=h6
 refine zR3 ?_
 refine dO 0 20 ah ?_
 refine ax (zT5 ?_)
 refine aw (aO rfl ac ad) (zT5 ?_)
 refine aw (aO rfl ac ad) (zT2 ?_)
 refine aw (aO rfl ac ad) (zT2 ?_)
 refine aw (aO rfl ac ad) (aw (ak rfl (uV a.st b.st)) ?_)
 refine aw (aK rfl (fun w hw=>by have q:=g6 ((a.lo - b.hi).toNat:Nat) ((a.hi - b.lo).toNat:Nat) ((iE a.st b.st).toNat:Nat) w (wN _) (EM _) (wN _); rw [g5] at q; exact q)) (zT5 ?_)
 exact aL (e:=by rw [if_neg (fun q=>by rcases q with (q|q)|q<;>simp_all)]; rfl)
theorem A6 (n:UInt32) (w:World) :
  Cr prog 321 #[.int .u32 n.toNat] w (.int .i64 ((2 ^ d6 n:Nat):Int)):=by
 have hcl:=zA n
 have hcn:(n % 32).toNat=d6 n:=rfl
 refine En f321 rfl rfl (ug ?_)
 refine cP (.of (ι:=Nat) (fun k=>k≤d6 n) (fun _=>_) (fun k=>[]) (fun k=>[(3,.int .i64 ((2 ^ k:Nat):Int)),(4,.int .u32 (UInt32.ofNat k).toNat)]) (fun k=>d6 n - k)) 0 (Nat.zero_le _) (.cons (by first|rfl|exact az rfl (by omega)|exact az rfl (kH k)|exact az rfl (by rw [qK])|exact az rfl (by simp)|exact bU rfl (by simp)) (.cons (by first|rfl|exact az rfl (by omega)|exact az rfl (kH k)|exact az rfl (by rw [qK])|exact az rfl (by simp)|exact bU rfl (by simp)) Front.nil)) (fun k hi m hm=>?_)
 have hk1:k≤d6 n:=hi
 have hkn:(UInt32.ofNat k).toNat=k:=by rw [UInt32.toNat_ofNat']; omega
 have hp:=Hh (k:=k) (by omega)
 have hp2:((2 ^ k:Nat):Int)≤2147483648:=Int.ofNat_le.2 hp
 have hp3:0≤((2 ^ k:Nat):Int):=Int.natCast_nonneg _
 refine zR5 ?_
 refine zz0 (pd (n:=32) rfl rfl) (zR3 ?_)
 refine ab rfl ?_ ?_<;>intro h1
 ·refine zR6 ?_
  refine zz0 (gw (m:=2) (n:=((2 ^ k:Nat):Int)) rfl rfl ⟨Int.le_trans (by decide) (Int.mul_nonneg (by decide) hp3),Int.le_trans (Int.mul_le_mul_of_nonneg_left hp2 (by decide)) (by decide)⟩) (zR6 ?_)
  refine zz0 (gl (n:=1) rfl rfl) (zR3 ?_)
  have hlt:k<d6 n:=by rw [← hkn,← hcn]; exact UInt32.lt_iff_toNat_lt.1 (by assumption)
  apply dn (k+1)
  ·exact rfl
  ·exact (.cons (by first|rfl|exact az rfl (by omega)|exact az rfl (kH k)|exact az rfl (by rw [qK])|exact az rfl (by simp)|exact bU rfl (by simp)) (.cons (by first|rfl|exact az rfl (by omega)|exact az rfl (kH k)|exact az rfl (by rw [qK])|exact az rfl (by simp)|exact bU rfl (by simp)) Front.nil))
  ·exact zz9 12 rfl
  ·exact (by repeat' constructor)
  ·exact (by show k+1≤_; omega)
  exact (by show d6 n - (k+1)<m; omega)
 refine df ?_
 refine aM results321 rfl (fun w' hw=>?_)
 have hk2:k=d6 n:=by
  have q:¬ k<d6 n:=by rw [← hkn,← hcn]; exact fun q=>absurd (UInt32.lt_iff_toNat_lt.2 q) (by assumption)
  omega
 subst hk2
 exact ⟨rfl,hw.b0⟩
theorem EA (a:VSet) (k:UInt32) (w:World) (hl:a.top=false→a.lo.toNat≤a.hi.toNat∧a.st.toNat≤a.hi.toNat - a.lo.toNat) :
  Cr prog 320 #[.agg (er.enc a).toArray,.int .i64 (k.toNat:Nat)] w (.agg (er.enc (mw a k)).toArray):=by
 have hk0:=k.toNat_lt
 have h2:=a.hi.toNat_lt
 refine En f320 rfl rfl (zR2 ?_)
 refine bJ rfl rfl (fun b1=>?_)
 refine bH aJ rfl (fun b2=>zR4 ?_)
 refine eU ah (zT3 ?_)
 apply Ja
 ·exact (rfl:_=(11,7,18))
 ·exact rfl
 ·intro hF3; have hF3':=hF3
  try simp only [bs] at hF3'
  refine zT3 ?_
  apply Gj
  ·exact (rfl:_=(7,10,17))
  ·exact rfl
  ·intro hT4; have hT4':=hT4
   try simp only [bs] at hT4'
   refine zT2 ?_
   refine db hT4 (aO rfl ac ad) (db hT4 (af rfl) (db hT4 (kY rfl rfl (by omega)) (db hT4 (t8 rfl rfl) ?_)))
   refine db hF3 (kc rfl hT4 rfl) ?_
   exact vd (Sub.cons rfl (zz7 7 rfl))
  ·intro hF4
   refine zT6 ?_
   refine db hF3 (kd rfl hF4 rfl) ?_
   exact vd (Sub.cons rfl (zz7 7 rfl))
  exact zQ
 ·intro hT3
  refine zT3 ?_
  refine dX rfl rfl rfl ?_
  refine dX rfl rfl rfl ?_
  refine dX rfl rfl rfl ?_
  refine dX rfl rfl rfl ?_
  refine dX rfl rfl rfl ?_
  refine dX rfl rfl rfl ?_
  exact zQ
 refine zT2 ?_
 refine ab rfl ?_ ?_<;>intro h5
 ·have hq:=h5
  refine dx (zz0 (ak rfl gp) (zR5 ?_))
  exact aL (e:=by unfold mw; rw [if_pos (hq.imp id (fun q=>OV q.1 q.2))]; rfl)
 have hq:=h5
 refine zR3 ?_
 have hl1:=hl hq.1
 have hsm:((a.hi.toNat:Nat):Int) * (k.toNat:Nat)≤4294967295:=KF (by omega) hq.2
 have hm0:0≤((a.hi.toNat:Nat):Int) * (k.toNat:Nat):=Int.mul_nonneg (by omega) (by omega)
 have hm1:0≤((a.lo.toNat:Nat):Int) * (k.toNat:Nat):=Int.mul_nonneg (by omega) (by omega)
 have hm2:0≤((a.st.toNat:Nat):Int) * (k.toNat:Nat):=Int.mul_nonneg (by omega) (by omega)
 have hm3:((a.lo.toNat:Nat):Int) * (k.toNat:Nat)≤((a.hi.toNat:Nat):Int) * (k.toNat:Nat):=Int.mul_le_mul_of_nonneg_right (by omega) (by omega)
 have hm4:((a.st.toNat:Nat):Int) * (k.toNat:Nat)≤((a.hi.toNat:Nat):Int) * (k.toNat:Nat):=Int.mul_le_mul_of_nonneg_right (by omega) (by omega)
 refine zR3 ?_
 refine zz0 (aO rfl ac ad) (zz0 (af rfl) (zz0 (gw rfl rfl (by omega)) (zR2 ?_)))
 refine zz0 (aO rfl ac ad) (zz0 (af rfl) (zz0 (gw rfl rfl (by omega)) (zR2 ?_)))
 refine zz0 (aO rfl ac ad) (zz0 (af rfl) (zz0 (gw rfl rfl (by omega)) ?_))
 refine zz0 (aK rfl (fun w hw=>by have q:=g6 (((a.lo.toNat:Nat):Int) * (k.toNat:Nat)) (((a.hi.toNat:Nat):Int) * (k.toNat:Nat)) (((a.st.toNat:Nat):Int) * (k.toNat:Nat)) w (by omega) (by omega) (by omega); rw [Mc hl1.1 (by omega) (by have:=hsm; rw [← Int.natCast_mul] at this; omega)] at q; exact q)) (zR4 ?_)
 exact aL (e:=by unfold mw; rw [if_neg (fun q=>by rcases q with q|q; rw [hq.1] at q; cases q; omega)]; rfl)
theorem Ms (a:VSet) (k:UInt32) (w:World) :
  Cr prog 322 #[.agg (er.enc a).toArray,.int .i64 (k.toNat:Nat)] w (.agg (er.enc (mC a k)).toArray):=by
 have hk0:=k.toNat_lt
 have h2:=a.hi.toNat_lt
 refine En f322 rfl rfl (zR2 ?_)
 refine bJ rfl rfl (fun b1=>?_)
 refine bH aJ rfl (fun b2=>zR9 ?_)
 refine ab rfl ?_ ?_<;>intro h3
 ·have hq:k=0:=UInt32.toNat_inj.1 (by have:=h3; show k.toNat=0; omega)
  refine dx (zz0 (ak rfl (jD 0)) (zR5 ?_))
  exact aL (e:=by rw [hq,Ka]; rfl)
 have hkz:k≠0:=fun e=>by subst e; exact h3 rfl
 have hkp:0<k.toNat:=Nat.pos_of_ne_zero (fun e=>hkz (UInt32.toNat_inj.1 e))
 refine zR9 ?_
 refine cP (.of (ι:=Nat) (fun j=>2 ^ j ∣ k.toNat) (fun _=>_) (fun j=>[cellE b2 (er.enc ⟨false,false,0,0,0⟩) 25,cellE b1 (er.enc a) 25]) (fun j=>[(5,.int .i64 ((2 ^ j:Nat):Int))]) (fun j=>32 - j)) 0 (by show 2 ^ 0 ∣ k.toNat; rw [Nat.pow_zero]; exact Nat.one_dvd _) (.cons (by first|rfl|exact az rfl (by omega)|exact az rfl (kH j)|exact az rfl (by simp)|exact bU rfl (by simp)) Front.nil) (fun j hi m hm=>?_)
 have hd:2 ^ j ∣ k.toNat:=hi
 have hj:=Nb hd hkp hk0
 have hp2:((2 ^ j:Nat):Int)≤2147483648:=Int.ofNat_le.2 (Hh hj)
 have hp3:1≤((2 ^ j:Nat):Int):=Int.ofNat_le.2 (Nat.pow_pos (by decide))
 refine zR5 ?_
 refine zz0 (gw (m:=2) (n:=((2 ^ j:Nat):Int)) rfl rfl (by omega)) ?_
 refine zz0 (vf (m:=((k.toNat:Nat):Int)) (n:=2 * ((2 ^ j:Nat):Int)) rfl rfl (by omega)) (zR3 ?_)
 refine ab rfl ?_ ?_<;>intro h4
 ·have hqe:=h4
  refine zR5 ?_
  refine zz0 (gw (m:=2) (n:=((2 ^ j:Nat):Int)) rfl rfl (by omega)) (zR4 ?_)
  have hd2:=Na hqe
  have hj2:=Nb hd2 hkp hk0
  apply dn (j+1)
  ·exact rfl
  ·exact (.cons (by first|rfl|exact az rfl (by omega)|exact az rfl (kH j)|exact az rfl (by simp)|exact bU rfl (by simp)) Front.nil)
  ·exact zz9 9 rfl
  ·exact (by repeat' constructor)
  ·exact hd2
  exact (by show 32 - (j+1)<m; omega)
 have hne:=h4
 refine cj ?_
 refine dZ (.of (ι:=UInt32) (fun hh=>hh=if a.top=false then jv k a.hi else k) (fun _=>Bg.of w) (fun hh=>[cellE b2 (er.enc ⟨false,false,0,0,0⟩) 25,cellE b1 (er.enc a) 25]) (fun hh=>[(6,.int .i64 (hh.toNat:Nat))])) ?_ (fun hh hi=>?_)
 ·skip
  refine zR6 ?_
  apply dV 6 21 27 (fun hT5 hT5'=>?_) ?_; rotate_right
  ·refine zR2 ?_
   refine zz5 hT5 (aO rfl ac ad) ?_
   exact zE
  refine zR2 ?_
  refine ab rfl ?_ ?_<;>intro h6
  ·have hm7:=h6
   refine zR3 ?_
   refine zz0 (aO rfl ac ad) (zR3 ?_)
   have hqm:=hm7
   refine xc a.hi (.cons (by first|rfl|exact az rfl (by omega)|exact az rfl (kH j)|exact az rfl (by simp)|exact bU rfl (by simp)) Front.nil) (zz9 9 rfl) (o:=(by show _=_; rw [if_pos hqm.1]; unfold jv; rw [if_pos (by rw [UInt32.lt_iff_toNat_lt]; have:=hqm.2; omega)]))
  have hm7:=h6
  refine zR2 ?_
  refine xc k (.cons (by first|rfl|exact az rfl (by omega)|exact az rfl (kH j)|exact az rfl (by simp)|exact bU rfl (by simp)) Front.nil) (zz9 5 rfl) (o:=(by show _=_; split; (rename_i e; unfold jv; rw [if_neg (by rw [UInt32.lt_iff_toNat_lt]; have:=hm7; first|(simp_all; done)|(simp_all; omega))]); rfl))
 skip
 have hhh:=hi
 refine zR4 ?_
 refine zz0 (aK rfl (fun w hw=>by have q:=g6 0 ((hh.toNat:Nat):Int) ((2 ^ j:Nat):Int) w (by omega) (EM _) (by omega); rw [Mr a hkz hd hne hhh] at q; exact q)) (zR4 ?_)
 exact aL (e:=rfl)
theorem qg (op:Int) (a b:VSet) (w:World) :
  Cr prog 287 #[.int .i64 op,.agg (er.enc a).toArray,.agg (er.enc b).toArray] w (.agg (er.enc (fb op a b)).toArray):=by
 have hl1:=(ae a).lo.toNat_lt
 have hl2:=(ae a).hi.toNat_lt
 refine En f287 rfl rfl (zR2 ?_)
 refine bJ rfl rfl (fun b1=>?_)
 refine bJ rfl rfl (fun b2=>?_)
 refine bH aJ rfl (fun b3=>zR5 ?_)
 refine zz0 (ak rfl (iM a)) (zR6 ?_)
 refine zz0 (ak rfl (iM b)) (zR9 ?_)
 refine cZ 3 17 20 (h2:=zR2 ?_)
 refine ab rfl ?_ ?_<;>intro h5
 ·have hq1:=h5
  refine dx (zz0 (ak rfl gp) (zR5 ?_))
  exact aL (e:=by unfold fb gV; rw [if_pos hq1]; rfl)
 have hq1:¬ (op<3∨15<op):=by have:=h5; omega
 refine zR8 ?_
 refine cZ 3 24 27 (h2:=zR2 ?_)
 refine ab rfl ?_ ?_<;>intro h7
 ·have hq2:=h7
  refine dx (zz0 (ak rfl kj) (zR5 ?_))
  exact aL (e:=by unfold fb gV; rw [if_neg hq1,if_pos hq2]; rfl)
 have hq2:=h7
 have hea:(ae a).em=false:=hq2.1
 have heb:(ae b).em=false:=hq2.2
 refine zR8 ?_
 apply dV 4 32 36 (fun hT8 hT8'=>?_) ?_; rotate_right
 ·refine zR2 ?_
  refine zz5 hT8 (dq (n:=0) rfl rfl) ?_
  exact zE
 refine zR5 ?_
 obtain ⟨one,hone⟩:∃ o,o=Au (ae b):=⟨_,rfl⟩
 have hoe:(!(ae b).top && decide ((ae b).st=0))=one:=hone.symm
 rw [hoe]
 refine zR3 ?_
 refine dT 4 38 42 (h2:=?_)
 refine zz0 (af rfl) ?_
 apply dV 4 43 47 (fun hT10 hT10'=>?_) ?_; rotate_right
 ·refine zR2 ?_
  refine zz5 hT10 (dq (n:=0) rfl rfl) ?_
  exact zE
 refine zR2 ?_
 refine ab rfl ?_ ?_<;>intro h11
 ·have hq3:=h11
  refine zR7 ?_
  refine zz0 (ak rfl (LZ op (ae a).lo (ae b).lo)) (bR ?_)
  refine zz0 (ak rfl (jD (oz op (ae a).lo (ae b).lo).1)) (zR5 ?_)
  exact aL (e:=by unfold fb gV; rw [if_neg hq1,if_neg (by rw [hea,heb]; simp),if_pos (by rw [nQ hea,nQ heb,← hone]; unfold Au; simp_all)]; rfl)
 have hq3:¬ (nk (ae a)=true∧nk (ae b)=true):=fun q=>by
  rw [nQ hea,nQ heb,← hone] at q
  have q1:=q.1
  unfold Au at q1
  have:=h11
  simp_all
 have happ:fb op a b=j2 op (ae a) (ae b):=by
  rw [KP heb]; unfold fb gV; rw [if_neg hq1,if_neg (by rw [hea,heb]; simp),if_neg hq3]
 refine mN ?_
 refine ab rfl ?_ ?_<;>intro h12
 ·refine zR4 ?_
  refine zz0 (aK rfl (fun w hw=>N8 (ae a) (ae b) w (fun h=>(Ca (gZ a) h hea).1) (fun h=>(Ca (gZ b) h heb).1))) (zR6 ?_)
  refine lC results287 rfl aV aj (fun w' hw=>?_)
  have e:j2 op (ae a) (ae b)=Py (ae a) (ae b):=by unfold j2; rw [if_pos (by assumption)]
  exact ⟨by rw [happ,e]; rfl,hw.b0⟩
 refine zR6 ?_
 refine ab rfl ?_ ?_<;>intro h13
 ·refine zR4 ?_
  refine zz0 (ak rfl (OX (ae a) (ae b))) (zR6 ?_)
  refine lC results287 rfl aV aj (fun w' hw=>?_)
  have e:j2 op (ae a) (ae b)=P4 (ae a) (ae b):=by unfold j2; rw [if_neg (by assumption),if_pos (by assumption)]
  exact ⟨by rw [happ,e]; rfl,hw.b0⟩
 refine zR6 ?_
 refine ab rfl ?_ ?_<;>intro h14
 ·refine zR5 ?_
  refine ab rfl ?_ ?_<;>intro h15
  ·have ho:=h15
   refine zR5 ?_
   refine zz0 (aO rfl ac ad) (zz0 (aK rfl (fun w hw=>EA (ae a) (ae b).lo w (fun h=>Ca (gZ a) h hea))) (zR6 ?_))
   refine aL (e:=?_)
   rw [happ]
   unfold j2
   rw [← hone]
   (repeat (first|rw [if_pos (by assumption)]|rw [if_neg (by assumption)]|rw [if_pos (by omega)]|rw [if_neg (by omega)]))
   try rfl
  have ho:¬ one=true:=by simpa using h15
  refine zR5 ?_
  refine zz0 (ak rfl gp) (zR4 ?_)
  refine aL (e:=?_)
  rw [happ]
  unfold j2
  rw [← hone]
  (repeat (first|rw [if_pos (by assumption)]|rw [if_neg (by assumption)]|rw [if_pos (by omega)]|rw [if_neg (by omega)]))
  try rfl
 refine zR6 ?_
 refine ab rfl ?_ ?_<;>intro h16
 ·refine zR5 ?_
  refine ab rfl ?_ ?_<;>intro h17
  ·have ho:=h17
   refine bB (dO 0 5 ah ?_)
   refine ax (zT3 ?_)
   refine aw (ak rfl (A6 (ae b).lo)) ?_
   refine aw (aK rfl (fun w hw=>by have q:=EA (ae a) (jt 1 (d6 (ae b).lo)) w (fun h=>Ca (gZ a) h hea); rw [Ow _ (zA _)] at q; exact q)) (zT7 ?_)
   refine aL (e:=?_)
   rw [happ]
   unfold j2
   rw [← hone]
   (repeat (first|rw [if_pos (by assumption)]|rw [if_neg (by assumption)]|rw [if_pos (by omega)]|rw [if_neg (by omega)]))
   try rfl
  have ho:¬ one=true:=by simpa using h17
  refine zR5 ?_
  refine zz0 (ak rfl gp) (zR4 ?_)
  refine aL (e:=?_)
  rw [happ]
  unfold j2
  rw [← hone]
  (repeat (first|rw [if_pos (by assumption)]|rw [if_neg (by assumption)]|rw [if_pos (by omega)]|rw [if_neg (by omega)]))
  try rfl
 refine zR6 ?_
 refine ab rfl ?_ ?_<;>intro h18
 ·refine zR5 ?_
  refine ab rfl ?_ ?_<;>intro h19
  ·have ho:=h19
   refine zR5 ?_
   refine zz0 (aO rfl ac ad) (zz0 (ak rfl (Ms (ae a) (ae b).lo)) (zR6 ?_))
   refine aL (e:=?_)
   rw [happ]
   unfold j2
   rw [← hone]
   (repeat (first|rw [if_pos (by assumption)]|rw [if_neg (by assumption)]|rw [if_pos (by omega)]|rw [if_neg (by omega)]))
   try rfl
  have ho:¬ one=true:=by simpa using h19
  refine zR5 ?_
  refine zz0 (ak rfl gp) (zR4 ?_)
  refine aL (e:=?_)
  rw [happ]
  unfold j2
  rw [← hone]
  (repeat (first|rw [if_pos (by assumption)]|rw [if_neg (by assumption)]|rw [if_pos (by omega)]|rw [if_neg (by omega)]))
  try rfl
 refine zR6 ?_
 refine ab rfl ?_ ?_<;>intro h20
 ·refine zR4 ?_
  refine dT 4 97 101 (h2:=zR2 ?_)
  refine ab rfl ?_ ?_<;>intro h22
  ·have hs:=h22
   refine zR4 ?_
   refine zz0 (ak rfl (A6 (ae b).lo)) (zR4 ?_)
   have hp2:((2 ^ d6 (ae b).lo:Nat):Int)≤2147483648:=Int.ofNat_le.2 (Hh (zA _))
   have hp3:1≤((2 ^ d6 (ae b).lo:Nat):Int):=Int.ofNat_le.2 (Nat.pow_pos (by decide))
   have hd1:0≤(((ae a).lo.toNat:Nat):Int) / ((2 ^ d6 (ae b).lo:Nat):Int):=Int.ediv_nonneg (by omega) (by omega)
   have hd2:(((ae a).lo.toNat:Nat):Int) / ((2 ^ d6 (ae b).lo:Nat):Int)≤(((ae a).lo.toNat:Nat):Int):=Int.ediv_le_self _ (by omega)
   have hd3:0≤(((ae a).hi.toNat:Nat):Int) / ((2 ^ d6 (ae b).lo:Nat):Int):=Int.ediv_nonneg (by omega) (by omega)
   have hd4:(((ae a).hi.toNat:Nat):Int) / ((2 ^ d6 (ae b).lo:Nat):Int)≤(((ae a).hi.toNat:Nat):Int):=Int.ediv_le_self _ (by omega)
   refine dO 0 11 ah ?_
   refine ax (zT2 ?_)
   refine aw (aO rfl ac ad) (aw (af rfl) (aw (kY (m:=(((ae a).lo.toNat:Nat):Int)) (n:=((2 ^ d6 (ae b).lo:Nat):Int)) rfl rfl (by omega)) (zT2 ?_)))
   refine aw (aO rfl ac ad) (aw (af rfl) (aw (kY (m:=(((ae a).hi.toNat:Nat):Int)) (n:=((2 ^ d6 (ae b).lo:Nat):Int)) rfl rfl (by omega)) ?_))
   refine aw (aK rfl (fun w hw=>by have q:=g6 ((((ae a).lo.toNat:Nat):Int) / ((2 ^ d6 (ae b).lo:Nat):Int)) ((((ae a).hi.toNat:Nat):Int) / ((2 ^ d6 (ae b).lo:Nat):Int)) 1 w (by omega) (by omega) (by decide); rw [Ob] at q; exact q)) (zT7 ?_)
   refine aL (e:=?_)
   rw [happ]
   unfold j2
   rw [← hone]
   (repeat (first|rw [if_pos (by assumption)]|rw [if_neg (by assumption)]|rw [if_pos (by omega)]|rw [if_neg (by omega)]))
   try rfl
  have hs:¬ (one=true∧(ae a).top=false):=fun q=>by rcases h22 with r|r<;>simp_all
  refine zR5 ?_
  refine zz0 (ak rfl gp) (zR4 ?_)
  refine aL (e:=?_)
  rw [happ]
  unfold j2
  rw [← hone]
  (repeat (first|rw [if_pos (by assumption)]|rw [if_neg (by assumption)]|rw [if_pos (by omega)]|rw [if_neg (by omega)]))
  try rfl
 refine zR7 ?_
 apply cM
 ·exact rfl
 ·intro hO23
  try simp only [bs] at hO23
  refine zR6 ?_
  apply cM
  ·exact rfl
  ·intro hO24
   try simp only [bs] at hO24
   refine zR6 ?_
   apply cM
   ·exact rfl
   ·intro hO25
    try simp only [bs] at hO25
    refine zR5 ?_
    exact dl rfl (zz9 2 rfl)
   refine aS ?_
   exact dl rfl (zz9 3 rfl)
  refine aS ?_
  exact dl rfl (zz9 3 rfl)
 refine aS ?_
 refine ab rfl ?_ ?_<;>intro h26
 ·refine dx (zz0 (aK rfl (fun w hw=>by have q:=g6 0 1 1 w (by decide) (by decide) (by decide); rw [HU] at q; exact q)) (zR6 ?_))
  refine aL (e:=?_)
  rw [happ]
  unfold j2
  rw [← hone]
  (repeat (first|rw [if_pos (by assumption)]|rw [if_neg (by assumption)]|rw [if_pos (by omega)]|rw [if_neg (by omega)]))
  try rfl
 refine zR5 ?_
 refine zz0 (ak rfl gp) (zR4 ?_)
 refine aL (e:=?_)
 rw [happ]
 unfold j2
 rw [← hone]
 (repeat (first|rw [if_pos (by assumption)]|rw [if_neg (by assumption)]|rw [if_pos (by omega)]|rw [if_neg (by omega)]))
 try rfl
theorem yp (i:Ins) (s:StV) (w:World) (hB:0≤i.b∧i.b<8) :
  Cr prog 286 #[.agg (al.enc i).toArray,.agg (bY.enc s).toArray] w (.agg (er.enc (xk s i)).toArray):=by
 refine En f286 rfl rfl (zR2 ?_)
 refine bJ rfl rfl (fun b1=>?_)
 refine bJ rfl rfl (fun b2=>?_)
 refine bH aJ rfl (fun b3=>bR ?_)
 refine ab rfl ?_ ?_<;>intro h4
 ·refine zR5 ?_
  refine zz0 (gn rfl rfl aA aj) ?_
  refine zz0 (dI (vs:=er.enc (s.get i.b)) rfl (by repeat constructor) aV aj (ie hB (by simp)) rfl) (zR5 ?_)
  refine aL (e:=?_)
  unfold xk
  exact zF
 refine zR6 ?_
 refine zz0 (ak rfl (jD _)) (zR4 ?_)
 refine aL (e:=?_)
 unfold xk
 exact zF
theorem J6 (a:VSet) (n:UInt32) (w:World) :
  Cr prog 290 #[.agg (er.enc a).toArray,.int .u32 n.toNat] w (.agg (er.enc (rK a n)).toArray):=by
 refine En f290 rfl rfl (zR2 ?_)
 refine bJ rfl rfl (fun b1=>?_)
 refine bH aJ rfl (fun b2=>zR6 ?_)
 refine zz0 (ql (n:=2147483648) rfl rfl) (zR2 ?_)
 refine ab rfl ?_ ?_<;>intro h3
 ·refine bB (dO 0 4 ah ?_)
  refine ax (zT2 ?_)
  refine aw (ak rfl (jD _)) ?_
  refine aw (ak rfl (qg 3 _ _)) (zT6 ?_)
  refine aL (e:=?_)
  unfold rK
  exact zF
 refine zR3 ?_
 refine dO 0 5 ah ?_
 refine ax (zT2 ?_)
 refine aw (gK (m:=0) rfl rfl) ?_
 refine aw (ak rfl (jD _)) ?_
 refine aw (ak rfl (qg 4 _ _)) (zT5 ?_)
 refine aL (e:=?_)
 unfold rK
 exact zF
theorem Ho (n:Int) (w:World) :
  Cr prog 289 #[.int .i64 n] w (.agg (er.enc (if n=1 then bS 0 255 1 else if n=2 then bS 0 65535 1 else iL)).toArray):=by
 refine En f289 rfl rfl (zR2 ?_)
 refine bH aJ rfl (fun b1=>zR9 ?_)
 refine ab rfl ?_ ?_<;>intro h2
 ·refine dx (zz0 (ak rfl (gU 0 255 1)) (zR5 ?_))
  exact aL (e:=by rw [if_pos (by assumption)]; rfl)
 refine zR9 ?_
 refine ab rfl ?_ ?_<;>intro h3
 ·refine dx (zz0 (ak rfl (gU 0 65535 1)) (zR5 ?_))
  exact aL (e:=by rw [if_neg (by assumption),if_pos (by assumption)]; rfl)
 refine nz (zz0 (ak rfl gp) (zR4 ?_))
 exact aL (e:=by rw [if_neg (by assumption),if_neg (by assumption)]; rfl)
theorem A7 (a:VSet) (w:World) :
  Cr prog 314 #[.agg (er.enc a).toArray] w (.bool (kD a)):=by
 refine En f314 rfl rfl (zR2 ?_)
 refine bJ rfl rfl (fun b1=>zR6 ?_)
 refine zz0 (ak rfl (vq _)) (zz0 (af rfl) ?_)
 refine dT 4 5 9 (h2:=?_)
 refine zz0 (af rfl) ?_
 refine dT 4 10 14 (h2:=zR4 ?_)
 refine aD (e:=?_)
 unfold kD
 exact zF
theorem Bp (i:Ins) (w:World) (hI:InsOK i) :
  Cr prog 245 #[.agg (al.enc i).toArray] w (.bool (tQ i)):=by
 refine En f245 rfl rfl (zR2 ?_)
 refine bJ rfl rfl (fun b1=>zR6 ?_)
 refine zz0 (aK rfl (fun w hw=>by have q:=jm i w; rw [qT] at q; exact q)) (zz0 (af rfl) ?_)
 refine dT 4 5 9 (h2:=?_)
 refine zz0 (af rfl) ?_
 refine dT 4 10 14 (h2:=zR4 ?_)
 exact aD (e:=by unfold tQ; rw [Bool.and_assoc,Bool.and_comm]; try (simp; done))
theorem DL (a:VSet) (n:UInt32) (w:World) :
  Cr prog 316 #[.agg (er.enc a).toArray,.int .u32 n.toNat] w (.agg (er.enc (jP a n)).toArray):=by
 refine En f316 rfl rfl (zR2 ?_)
 refine bJ rfl rfl (fun b1=>?_)
 refine bH aJ rfl (fun b2=>zR6 ?_)
 refine zz0 (ak rfl (A7 _)) (zR2 ?_)
 apply gA
 ·exact (rfl:_=(11,8,19))
 ·exact rfl
 ·intro hF3; have hF3':=hF3
  try simp only [bs] at hF3'
  refine zR5 ?_
  apply fC
  ·exact (rfl:_=(5,13,18))
  ·exact rfl
  ·intro hT4; have hT4':=hT4
   try simp only [bs] at hT4'
   refine zR7 ?_
   exact aN (Sub.cons rfl (zz7 5 rfl))
  ·intro hF4
   refine zR7 ?_
   exact aN (Sub.cons rfl (zz7 5 rfl))
  refine zR3 ?_
  exact aN (Sub.cons rfl (zz7 7 rfl))
 ·intro hT3
  refine gB ?_
  exact aN (Sub.cons rfl (zz7 11 rfl))
 refine zR2 ?_
 refine ab rfl ?_ ?_<;>intro h5
 ·refine zR8 ?_
  refine lC mE rfl aV aj (fun w' hw=>?_)
  have hbe:kD a=true→(a.st=0↔a.lo=a.hi):=u9
  refine ⟨?_,hw.b0⟩
  unfold jP
  exact zF
 refine df ?_
 refine ab rfl ?_ ?_<;>intro h6
 ·refine dx (zz0 (ak rfl kj) (zR5 ?_))
  refine lC mE rfl aV aj (fun w' hw=>?_)
  have hbe:kD a=true→(a.st=0↔a.lo=a.hi):=u9
  refine ⟨?_,hw.b0⟩
  unfold jP
  exact zF
 refine cj ?_
 refine ab rfl ?_ ?_<;>intro h7
 ·refine cj ?_
  refine zz0 (ak rfl (gU _ _ _)) (zR5 ?_)
  refine lC mE rfl aV aj (fun w' hw=>?_)
  have hbe:kD a=true→(a.st=0↔a.lo=a.hi):=u9
  refine ⟨?_,hw.b0⟩
  unfold jP
  exact zF
 refine gB ?_
 refine zz0 (ak rfl (gU _ _ _)) (zR4 ?_)
 refine lC mE rfl aV aj (fun w' hw=>?_)
 have hbe:kD a=true→(a.st=0↔a.lo=a.hi):=u9
 refine ⟨?_,hw.b0⟩
 unfold jP
 exact zF
theorem Cl (c:Int) (s:VSet) (n:UInt32) (w:World) :
  Cr prog 284 #[.int .i64 c,.agg (er.enc s).toArray,.int .u32 n.toNat] w (.agg (er.enc (qH c s n)).toArray):=by
 refine En f284 rfl rfl (zR2 ?_)
 refine bJ rfl rfl (fun b1=>?_)
 refine bH aJ rfl (fun b2=>zR2 ?_)
 refine dZ (.of (ι:=Unit) (fun u=>(3≤c∧c≤6)→¬ ((kD s=false∨2147483648≤s.hi)∨2147483648≤n)) (fun _=>Bg.of w) (fun u=>[cellE b2 (er.enc ⟨false,false,0,0,0⟩) 25,cellE b1 (er.enc s) 25]) (fun u=>[])) ?_ (fun u hi=>?_)
 ·skip
  refine zR5 ?_
  refine dT 3 9 12 (h2:=zR2 ?_)
  refine ab rfl ?_ ?_<;>intro h4
  ·have hr:=h4
   refine zR3 ?_
   refine zz0 (ak rfl (A7 _)) (zR2 ?_)
   apply gJ 4 16 20 (fun hF5 hF5'=>?_) ?_; rotate_right
   ·refine zR2 ?_
    refine zz5 hF5 (jA (n:=2147483648) rfl rfl) ?_
    exact zE
   refine zz0 (af rfl) ?_
   apply gJ 3 21 24 (fun hF6 hF6'=>?_) ?_; rotate_right
   ·refine zz5 hF6 (af rfl) (zz5 hF6 (jA (n:=2147483648) rfl rfl) ?_)
    exact zE
   refine zR2 ?_
   refine ab rfl ?_ ?_<;>intro h7
   ·have hq:=h7
    refine zR8 ?_
    exact aL (e:=by rw [JS ⟨hr,hq⟩]; rfl)
   have hq:=h7
   refine zR2 ?_
   refine aT () (o:=(fun _ q=>by obtain ⟨⟨q1,q2⟩,q3⟩:=hq; rcases q with (q|q)|q; rw [q1] at q; cases q; exact q2 q; exact q3 q))
  have hr:=h4
  refine zR2 ?_
  refine aT () (o:=(fun q=>by omega))
 skip
 have hnb:=hi
 refine gB ?_
 refine ab rfl ?_ ?_<;>intro h8
 ·refine bB (dO 0 4 ah ?_)
  refine ax (zT2 ?_)
  refine aw (ak rfl (jD _)) ?_
  refine aw (ak rfl (rN _ _)) (zT7 ?_)
  exact aL (e:=by rw [lr (d:=1) hnb (by omega)]; unfold dz; rw [if_pos rfl]; rfl)
 refine zR6 ?_
 refine ab rfl ?_ ?_<;>intro h9
 ·refine zR4 ?_
  refine zz0 (ak rfl (DL _ _)) (zR6 ?_)
  exact aL (e:=by rw [lr (d:=2) hnb (by omega)]; unfold dz; rw [if_neg (by decide),if_pos rfl]; rfl)
 refine zR7 ?_
 apply cM
 ·exact rfl
 ·intro hO10
  try simp only [bs] at hO10
  refine zR5 ?_
  exact dl rfl (zz9 2 rfl)
 refine aS ?_
 refine ab rfl ?_ ?_<;>intro h11
 ·refine zR4 ?_
  refine zz0 (dq (n:=0) rfl rfl) (zR2 ?_)
  refine ab rfl ?_ ?_<;>intro h12
  ·refine dx (zz0 (ak rfl kj) (zR7 ?_))
   exact aL (e:=by rw [lr (d:=7) hnb (by omega)]; unfold dz; rw [if_neg (by decide),if_neg (by decide),if_pos rfl,if_pos (by assumption)]; rfl)
  refine j8 (bB (dO 0 5 ah ?_))
  refine ax (zT2 ?_)
  refine aw (gK (n:=1) rfl rfl) ?_
  refine aw (ak rfl (gU 0 (n - 1) 1)) ?_
  refine aw (ak rfl (rN _ _)) (zT7 ?_)
  exact aL (e:=by rw [lr (d:=7) hnb (by omega)]; unfold dz; rw [if_neg (by decide),if_neg (by decide),if_pos rfl,if_neg (by assumption)]; rfl)
 refine zR7 ?_
 apply cM
 ·exact rfl
 ·intro hO13
  try simp only [bs] at hO13
  refine zR5 ?_
  exact dl rfl (zz9 2 rfl)
 refine aS ?_
 refine ab rfl ?_ ?_<;>intro h14
 ·refine bB (dO 0 4 ah ?_)
  refine ax (zT2 ?_)
  refine aw (ak rfl (gU 0 n 1)) ?_
  refine aw (ak rfl (rN _ _)) (zT7 ?_)
  exact aL (e:=by rw [lr (d:=9) hnb (by omega)]; unfold dz; rw [if_neg (by decide),if_neg (by decide),if_neg (by decide),if_pos rfl]; rfl)
 refine zR7 ?_
 apply cM
 ·exact rfl
 ·intro hO15
  try simp only [bs] at hO15
  refine zR5 ?_
  exact dl rfl (zz9 2 rfl)
 refine aS ?_
 refine ab rfl ?_ ?_<;>intro h16
 ·refine bB (dO 0 4 ah ?_)
  refine ax (zT2 ?_)
  refine aw (ak rfl (gU n 4294967295 1)) ?_
  refine aw (ak rfl (rN _ _)) (zT7 ?_)
  exact aL (e:=by rw [lr (d:=8) hnb (by omega)]; unfold dz; rw [if_neg (by decide),if_neg (by decide),if_neg (by decide),if_neg (by decide),if_pos rfl]; rfl)
 refine zR7 ?_
 apply cM
 ·exact rfl
 ·intro hO17
  try simp only [bs] at hO17
  refine zR5 ?_
  exact dl rfl (zz9 2 rfl)
 refine aS ?_
 refine ab rfl ?_ ?_<;>intro h18
 ·refine zR4 ?_
  refine zz0 (dq (n:=4294967295) rfl rfl) (zR2 ?_)
  refine ab rfl ?_ ?_<;>intro h19
  ·refine dx (zz0 (ak rfl kj) (zR7 ?_))
   exact aL (e:=by rw [lr (d:=10) hnb (by omega)]; unfold dz; rw [if_neg (by decide),if_neg (by decide),if_neg (by decide),if_neg (by decide),if_neg (by decide),if_pos rfl,if_pos (by assumption)]; rfl)
  refine j8 (bB (dO 0 5 ah ?_))
  refine ax (zT2 ?_)
  refine aw (gl (n:=1) rfl rfl) ?_
  refine aw (ak rfl (gU (n+1) 4294967295 1)) ?_
  refine aw (ak rfl (rN _ _)) (zT7 ?_)
  exact aL (e:=by rw [lr (d:=10) hnb (by omega)]; unfold dz; rw [if_neg (by decide),if_neg (by decide),if_neg (by decide),if_neg (by decide),if_neg (by decide),if_pos rfl,if_neg (by assumption)]; rfl)
 refine bR ?_
 exact aL (e:=by unfold qH dz; rw [if_neg (by omega),if_neg (by omega),if_neg (by omega),if_neg (by omega),if_neg (by omega),if_neg (by omega),if_neg (by omega)]; rfl)
theorem tW (w:World) :
  Cr prog 184 #[.agg (er.enc iL).toArray] w (.agg (bY.enc (vr 8)).toArray):=by
 refine En f184 rfl rfl (zR2 ?_)
 refine bJ rfl rfl (fun b1=>?_)
 refine bH cN rfl (fun b2=>zR4 ?_)
 refine bH cN rfl (fun b3=>zR9 ?_)
 refine cP (.of (ι:=Nat) (fun k=>k≤8) (fun _=>_) (fun k=>[cellE b3 (bY.enc (vr k)) 28,cellE b2 (bY.enc gx) 28,cellE b1 (er.enc iL) 25]) (fun k=>[(4,.int .i64 (k:Nat))]) (fun k=>8 - k)) 0 (Nat.zero_le _) (Front.c Front.nil) (fun k hi m hm=>zR7 ?_)
 refine ab rfl ?_ ?_<;>intro h4
 ·refine zR8 ?_
  refine zz0 (gn rfl rfl aA aj) ?_
  refine cY rfl rfl aj (by repeat constructor) ((fQ (k:=(k:Int)) ⟨by omega,by omega⟩ (by simp) _).trans (congrArg bY.enc (DW (by omega)))) (by rfl) (fR (k:=(k:Int)) ⟨by omega,by omega⟩ (by simp)) (by first|exact Enc.one er _|exact List.all_eq_true.1 rfl) rfl (zR9 ?_)
  refine aP (k+1) (o:=(by show k+1≤_; omega))
 refine zR6 ?_
 obtain rfl:k=8:=by omega
 refine zR6 ?_
 exact aL (e:=rfl)
theorem H7 (w:World) :
  Cr prog 184 #[.agg (er.enc emptyS).toArray] w (.agg (bY.enc (gI 8)).toArray):=by
 refine En f184 rfl rfl (zR2 ?_)
 refine bJ rfl rfl (fun b1=>?_)
 refine bH cN rfl (fun b2=>zR4 ?_)
 refine bH cN rfl (fun b3=>zR9 ?_)
 refine cP (.of (ι:=Nat) (fun k=>k≤8) (fun _=>_) (fun k=>[cellE b3 (bY.enc (gI k)) 28,cellE b2 (bY.enc gx) 28,cellE b1 (er.enc emptyS) 25]) (fun k=>[(4,.int .i64 (k:Nat))]) (fun k=>8 - k)) 0 (Nat.zero_le _) (Front.c Front.nil) (fun k hi m hm=>zR7 ?_)
 refine ab rfl ?_ ?_<;>intro h4
 ·refine zR8 ?_
  refine zz0 (gn rfl rfl aA aj) ?_
  refine cY rfl rfl aj (by repeat constructor) ((fQ (k:=(k:Int)) ⟨by omega,by omega⟩ (by simp) _).trans (congrArg bY.enc (zo (by omega)))) (by rfl) (fR (k:=(k:Int)) ⟨by omega,by omega⟩ (by simp)) (by first|exact Enc.one er _|exact List.all_eq_true.1 rfl) rfl (zR9 ?_)
  refine aP (k+1) (o:=(by show k+1≤_; omega))
 refine zR6 ?_
 obtain rfl:k=8:=by omega
 refine zR6 ?_
 exact aL (e:=rfl)
theorem Hm (cc:Int) (w:World) :
  Cr prog 283 #[.int .i64 cc] w (.int .i64 (vF cc)):=by
 refine En f283 rfl rfl (cj ?_)
 refine cZ 3 5 8 (h2:=zR2 ?_)
 refine ab rfl ?_ ?_<;>intro h2
 ·have hq:=h2
  refine zR7 ?_
  exact aD (e:=by unfold vF; rw [if_pos (by omega)])
 have hq:=h2
 refine zR6 ?_
 refine zz0 (vf rfl rfl (by omega)) (zR3 ?_)
 refine ab rfl ?_ ?_<;>intro h3
 ·have h2:=h3
  refine zR9 ?_
  exact aD (e:=by rw [Ov (by omega) h2])
 have h2:=h3
 refine bR ?_
 exact aD (e:=by rw [Mj (by omega) h2])
theorem qQ (a b:StV) (w:World) :
  Cr prog 134 #[.agg (bY.enc a).toArray,.agg (bY.enc b).toArray] w (.agg (bY.enc (gr a b 8)).toArray):=by
 refine En f134 rfl rfl (zR2 ?_)
 refine bJ rfl rfl (fun b1=>?_)
 refine bJ rfl rfl (fun b2=>?_)
 refine bH cN rfl (fun b3=>zR9 ?_)
 refine cP (.of (ι:=Nat) (fun k=>k≤8) (fun _=>_) (fun k=>[cellE b3 (bY.enc gx) 28,cellE b2 (bY.enc b) 28,cellE b1 (bY.enc (gr a b k)) 28]) (fun k=>[(5,.int .i64 (k:Nat))]) (fun k=>8 - k)) 0 (Nat.zero_le _) (Front.c Front.nil) (fun k hi m hm=>?_)
 have hgk:=vP a b k hi k (Nat.le_refl k)
 refine zR7 ?_
 refine ab rfl ?_ ?_<;>intro h4
 ·refine zR4 ?_
  replace hgk:=hgk (by omega)
  refine dO 0 12 ah ?_
  refine ax (zT3 ?_)
  refine aw (gn rfl rfl aA aj) ?_
  refine aw (dI (vs:=er.enc ((gr a b k).get (k:Int))) rfl (by repeat constructor) aV aj (ie ⟨by omega,by omega⟩ (by simp)) rfl) (zT2 ?_)
  refine aw (gn rfl rfl aA aj) ?_
  refine aw (dI (vs:=er.enc (b.get (k:Int))) rfl (by repeat constructor) aV aj (ie ⟨by omega,by omega⟩ (by simp)) rfl) ?_
  refine aw (ak rfl (y8 _ _)) (aw (bE rfl) ?_)
  refine aw (gn rfl rfl aA aj) (im ?_)
  refine cY rfl rfl aj (by repeat constructor) ((fQ (s:=gr a b k) (k:=(k:Int)) ⟨by omega,by omega⟩ (by simp) (dK ((gr a b k).get (k:Int)) (b.get (k:Int)))).trans (congrArg bY.enc (show _=gr a b (k+1) by rw [hgk]; rfl))) (by rfl) (fR (k:=(k:Int)) ⟨by omega,by omega⟩ (by simp)) (by first|exact Enc.one er _|exact List.all_eq_true.1 rfl) rfl (zR9 ?_)
  refine aP (k+1) (o:=(by show k+1≤_; omega))
 refine zR6 ?_
 obtain rfl:k=8:=by omega
 refine zR6 ?_
 exact aL (e:=rfl)
theorem DO (a b:StV) (w:World) :
  Cr prog 188 #[.agg (bY.enc a).toArray,.agg (bY.enc b).toArray] w (.agg (bY.enc (tp a b 8)).toArray):=by
 refine En f188 rfl rfl (zR2 ?_)
 refine bJ rfl rfl (fun b1=>?_)
 refine bJ rfl rfl (fun b2=>?_)
 refine bH cN rfl (fun b3=>zR9 ?_)
 refine cP (.of (ι:=Nat) (fun k=>k≤8) (fun _=>_) (fun k=>[cellE b3 (bY.enc gx) 28,cellE b2 (bY.enc (tp a b k)) 28,cellE b1 (bY.enc a) 28]) (fun k=>[(5,.int .i64 (k:Nat))]) (fun k=>8 - k)) 0 (Nat.zero_le _) (Front.c Front.nil) (fun k hi m hm=>?_)
 have hgk:=yh a b k hi k (Nat.le_refl k)
 refine zR7 ?_
 refine ab rfl ?_ ?_<;>intro h4
 ·refine zR4 ?_
  replace hgk:=hgk (by omega)
  refine dO 0 12 ah ?_
  refine ax (zT3 ?_)
  refine aw (gn rfl rfl aA aj) ?_
  refine aw (dI (vs:=er.enc (a.get (k:Int))) rfl (by repeat constructor) aV aj (ie ⟨by omega,by omega⟩ (by simp)) rfl) (zT2 ?_)
  refine aw (gn rfl rfl aA aj) ?_
  refine aw (dI (vs:=er.enc ((tp a b k).get (k:Int))) rfl (by repeat constructor) aV aj (ie ⟨by omega,by omega⟩ (by simp)) rfl) ?_
  refine aw (ak rfl (Jt _ _)) (aw (bE rfl) ?_)
  refine aw (gn rfl rfl aA aj) (im ?_)
  refine cY rfl rfl aj (by repeat constructor) ((fQ (s:=tp a b k) (k:=(k:Int)) ⟨by omega,by omega⟩ (by simp) (jH (a.get (k:Int)) ((tp a b k).get (k:Int)))).trans (congrArg bY.enc (show _=tp a b (k+1) by rw [hgk]; rfl))) (by rfl) (fR (k:=(k:Int)) ⟨by omega,by omega⟩ (by simp)) (by first|exact Enc.one er _|exact List.all_eq_true.1 rfl) rfl (zR9 ?_)
  refine aP (k+1) (o:=(by show k+1≤_; omega))
 refine zR6 ?_
 obtain rfl:k=8:=by omega
 refine zR6 ?_
 exact aL (e:=rfl)
theorem Hb (cc:Int) (i:Ins) (s:StV) (t:Bool) (w:World) (hI:InsOK i) (hA:tQ i=true→0≤i.a∧i.a<8) :
  Cr prog 246 #[.int .i64 cc,.agg (al.enc i).toArray,.agg (bY.enc s).toArray,.bool t] w (.agg (bY.enc (my cc i s t)).toArray):=by
 refine En f246 rfl rfl (zR2 ?_)
 refine bJ rfl rfl (fun b1=>?_)
 refine bJ rfl rfl (fun b2=>?_)
 refine bH cN rfl (fun b3=>zR6 ?_)
 refine zz0 (aK rfl (fun w hw=>Bp i w hI)) (zR3 ?_)
 refine ab rfl ?_ ?_<;>intro h4
 ·have hq:=h4
  refine zR8 ?_
  exact aL (e:=by unfold my; rw [if_pos (by simpa using hq)]; rfl)
 have hq:tQ i=true:=by simpa using h4
 have hA':=hA hq
 refine zR8 ?_
 refine dZ (.of (ι:=Int) (fun c=>c=if t=true then cc else vF cc) (fun _=>Bg.of w) (fun c=>[cellE b3 (bY.enc gx) 28,cellE b2 (bY.enc s) 28,cellE b1 (al.enc i) 36]) (fun c=>[(9,.int .i64 c)])) ?_ (fun c hi=>?_)
 ·skip
  refine zR6 ?_
  refine ab rfl ?_ ?_<;>intro h5
  ·have ht:t=false:=by simpa using h5
   refine cC (zz0 (af rfl) (zz0 (ak rfl (Hm cc)) (zR3 ?_)))
   refine aT (vF cc) (o:=(by show _=_; rw [ht]; rfl))
  have ht:t=true:=by simpa using h5
  refine zR2 ?_
  refine aT cc (o:=(by show _=_; rw [ht]; rfl))
 skip
 have hc:=hi
 refine bB (dO 0 13 ah ?_)
 refine ax (zT6 ?_)
 refine aw (gn rfl rfl aA aj) ?_
 refine aw (dI (vs:=er.enc (s.get i.a)) rfl (by repeat constructor) aV aj (ie hA' (by simp)) rfl) (zT2 ?_)
 refine aw (ak rfl (Cl c (s.get i.a) i.imm)) (aw (bE rfl) ?_)
 refine aw (gn rfl rfl aA aj) (im ?_)
 refine cY rfl rfl aj (by repeat constructor) (fQ (k:=i.a) hA' (by simp) (qH c (s.get i.a) i.imm)) (by rfl) (fR (k:=i.a) hA' (by simp)) (by first|exact Enc.one er _|exact List.all_eq_true.1 rfl) rfl (zR3 ?_)
 rw [Ha hA',hc]
 refine zR6 ?_
 refine lC results246 rfl isAgg28 g7 (fun w' hw=>?_)
 have e:my cc i s t=nn (if t=true then cc else vF cc) i s:=by unfold my; rw [if_neg (show ¬ tQ i=false by rw [hq]; simp)]
 exact ⟨by rw [e]; rfl,hw.b0⟩
theorem CE (op:Int) (w:World) (h:6≤op∧op≤14) :
  Cr prog 288 #[.int .i64 op] w (.int .i64 (wM op)):=by
 refine En f288 rfl rfl (GP ?_)
 refine ab rfl ?_ ?_<;>intro h1
 ·refine zR8 ?_
  refine aD (e:=?_)
  rcases (show op=6∨op=7∨op=8∨op=9∨op=10∨op=11∨op=12∨op=13∨op=14 by omega) with e|e|e|e|e|e|e|e|e<;>subst e<;>first|rfl|(exfalso; omega)
 refine zR6 ?_
 refine ab rfl ?_ ?_<;>intro h2
 ·refine zR8 ?_
  refine aD (e:=?_)
  rcases (show op=6∨op=7∨op=8∨op=9∨op=10∨op=11∨op=12∨op=13∨op=14 by omega) with e|e|e|e|e|e|e|e|e<;>subst e<;>first|rfl|(exfalso; omega)
 refine zR6 ?_
 refine ab rfl ?_ ?_<;>intro h3
 ·refine zR8 ?_
  refine aD (e:=?_)
  rcases (show op=6∨op=7∨op=8∨op=9∨op=10∨op=11∨op=12∨op=13∨op=14 by omega) with e|e|e|e|e|e|e|e|e<;>subst e<;>first|rfl|(exfalso; omega)
 refine zR6 ?_
 refine ab rfl ?_ ?_<;>intro h4
 ·refine zR8 ?_
  refine aD (e:=?_)
  rcases (show op=6∨op=7∨op=8∨op=9∨op=10∨op=11∨op=12∨op=13∨op=14 by omega) with e|e|e|e|e|e|e|e|e<;>subst e<;>first|rfl|(exfalso; omega)
 refine zR6 ?_
 refine ab rfl ?_ ?_<;>intro h5
 ·refine zR8 ?_
  refine aD (e:=?_)
  rcases (show op=6∨op=7∨op=8∨op=9∨op=10∨op=11∨op=12∨op=13∨op=14 by omega) with e|e|e|e|e|e|e|e|e<;>subst e<;>first|rfl|(exfalso; omega)
 refine zR6 ?_
 refine ab rfl ?_ ?_<;>intro h6
 ·refine zR8 ?_
  refine aD (e:=?_)
  rcases (show op=6∨op=7∨op=8∨op=9∨op=10∨op=11∨op=12∨op=13∨op=14 by omega) with e|e|e|e|e|e|e|e|e<;>subst e<;>first|rfl|(exfalso; omega)
 refine zR6 ?_
 refine ab rfl ?_ ?_<;>intro h7
 ·refine zR8 ?_
  refine aD (e:=?_)
  rcases (show op=6∨op=7∨op=8∨op=9∨op=10∨op=11∨op=12∨op=13∨op=14 by omega) with e|e|e|e|e|e|e|e|e<;>subst e<;>first|rfl|(exfalso; omega)
 refine zR6 ?_
 refine ab rfl ?_ ?_<;>intro h8
 ·refine zR8 ?_
  refine aD (e:=?_)
  rcases (show op=6∨op=7∨op=8∨op=9∨op=10∨op=11∨op=12∨op=13∨op=14 by omega) with e|e|e|e|e|e|e|e|e<;>subst e<;>first|rfl|(exfalso; omega)
 refine zR9 ?_
 refine aD (e:=?_)
 rcases (show op=6∨op=7∨op=8∨op=9∨op=10∨op=11∨op=12∨op=13∨op=14 by omega) with e|e|e|e|e|e|e|e|e<;>subst e<;>first|rfl|(exfalso; omega)
theorem MV (li:List Ins) (V:Value) (a:UInt32) (w:World) (hI:Sl (hp w) al li V) :
  Cr prog 183 #[V,.int .u32 a.toNat] w (.int .i64 (dA (fun i:Ins=>decide (i.addr=a)) 0 li)):=by
 have hI':Sl (Bg.of w).blk al li V:=hI
 have hlen:=hI.len_le
 refine En f183 rfl rfl (df ?_)
 refine cP (.of (ι:=Nat) (fun k=>k≤li.length∧dA (fun i:Ins=>decide (i.addr=a)) k (li.drop k)=dA (fun i:Ins=>decide (i.addr=a)) 0 li) (fun _=>_) (fun k=>[]) (fun k=>[(5,.int .i64 (k:Nat))]) (fun k=>li.length - k)) 0 ⟨Nat.zero_le _,rfl⟩ (Front.c Front.nil) (fun k hi m hm=>?_)
 obtain ⟨hk1,hk2⟩:=hi
 refine zR9 ?_
 refine ab rfl ?_ ?_<;>intro h1
 ·refine bR ?_
  refine zz0 (jO rfl co) (zR4 ?_)
  refine ab rfl ?_ ?_<;>intro h2
  ·refine df ?_
   refine aM results183 rfl (fun w' hw=>?_)
   have hix:dA (fun i:Ins=>decide (i.addr=a)) 0 li=(k:Int):=by
    rw [← hk2,drop_cons (k:=k) (by omega),dA,if_pos (by simp_all)]
   exact ⟨by rw [hix],hw.b0⟩
  refine zR9 ?_
  refine aP (k+1) (o:=⟨by omega,by rw [← hk2,drop_cons (k:=k) (by omega),dA,if_neg (by simp_all)]⟩)
 refine cj ?_
 refine aM results183 rfl (fun w' hw=>?_)
 have hix:dA (fun i:Ins=>decide (i.addr=a)) 0 li=-1:=by rw [← hk2,List.drop_of_length_le (by omega)]; rfl
 exact ⟨by rw [hix],hw.b0⟩
theorem Ce (i:Ins) (s:StV) (w:World) (hI:InsOK i) :
  Cr prog 247 #[.agg (al.enc i).toArray,.agg (bY.enc s).toArray] w (.agg (bY.enc (fm i s)).toArray):=by
 refine En f247 rfl rfl (zR2 ?_)
 refine bJ rfl rfl (fun b1=>?_)
 refine bJ rfl rfl (fun b2=>?_)
 refine bH cN rfl (fun b3=>zR6 ?_)
 refine zz0 (aK rfl (fun w hw=>by have q:=jm i w; rw [qT] at q; exact q)) (zR3 ?_)
 refine ab rfl ?_ ?_<;>intro h4
 ·have hq:=h4
  refine zR8 ?_
  exact aL (e:=by unfold fm; rw [if_neg (by simp_all)]; rfl)
 have hq:=h4
 have he:eN i=0:=by simp_all
 obtain ⟨_,hA,hB,_⟩:=ly he
 refine nz (zz0 (ak rfl (jD 4)) ?_)
 refine bH aJ rfl (fun b5=>gB ?_)
 refine ab rfl ?_ ?_<;>intro h6
 ·refine dO 0 7 ah ?_
  refine ax (zT4 ?_)
  refine aw (aK rfl (fun w hw=>yp i s w hB)) (aw (bE rfl) ?_)
  refine aw (gn rfl rfl aA aj) (im ?_)
  refine cY rfl rfl aj (by repeat constructor) (fQ (k:=i.a) hA (by simp) (xk s i)) (by rfl) (fR (k:=i.a) hA (by simp)) (by first|exact Enc.one er _|exact List.all_eq_true.1 rfl) rfl (bR ?_)
  exact aL (e:=by unfold fm; rw [if_pos he]; (repeat (first|rw [if_pos (by assumption)]|rw [if_pos (by omega)]|rw [if_neg (by omega)])); rfl)
 refine zR6 ?_
 refine dT 4 26 30 (h2:=zR3 ?_)
 refine ab rfl ?_ ?_<;>intro h8
 ·have ho:=h8
  refine dO 0 16 ah ?_
  refine ax (zT4 ?_)
  refine aw (aK rfl (fun w hw=>CE i.op w ho)) (zT3 ?_)
  refine aw (gn rfl rfl aA aj) ?_
  refine aw (dI (vs:=er.enc (s.get i.a)) rfl (by repeat constructor) aV aj (ie hA (by simp)) rfl) (zT2 ?_)
  refine aw (aK rfl (fun w hw=>yp i s w hB)) ?_
  refine aw (ak rfl (qg (wM i.op) (s.get i.a) (xk s i))) (aw (bE rfl) ?_)
  refine aw (gn rfl rfl aA aj) (im ?_)
  refine cY rfl rfl aj (by repeat constructor) (fQ (k:=i.a) hA (by simp) (fb (wM i.op) (s.get i.a) (xk s i))) (by rfl) (fR (k:=i.a) hA (by simp)) (by first|exact Enc.one er _|exact List.all_eq_true.1 rfl) rfl (bR ?_)
  exact aL (e:=by unfold fm; rw [if_pos he]; (repeat (first|rw [if_pos (by assumption)]|rw [if_pos (by omega)]|rw [if_neg (by omega)])); rfl)
 have ho:=h8
 refine zR8 ?_
 refine ab rfl ?_ ?_<;>intro h9
 ·have hl:=h9
  have hwd:=Mx he (by omega)
  refine dO 0 7 ah ?_
  refine ax (zT4 ?_)
  refine aw (ak rfl (Ho i.width)) (aw (bE rfl) ?_)
  refine aw (gn rfl rfl aA aj) (im ?_)
  refine cY rfl rfl aj (by repeat constructor) (fQ (k:=i.a) hA (by simp) (if i.width=1 then bS 0 255 1 else if i.width=2 then bS 0 65535 1 else iL)) (by rfl) (fR (k:=i.a) hA (by simp)) (by first|exact Enc.one er _|exact List.all_eq_true.1 rfl) rfl (bR ?_)
  exact aL (e:=by rw [GW he hl hwd]; rfl)
 have hl:=h9
 refine zR6 ?_
 refine cZ 4 62 66 (h2:=zR3 ?_)
 refine ab rfl ?_ ?_<;>intro h11
 ·refine dO 0 5 ah ?_
  refine ax (zT2 ?_)
  refine aw (ak rfl gp) (aw (bE rfl) ?_)
  refine aw (gn rfl rfl aA aj) (im ?_)
  refine cY rfl rfl aj (by repeat constructor) (fQ (k:=i.a) hA (by simp) iL) (by rfl) (fR (k:=i.a) hA (by simp)) (by first|exact Enc.one er _|exact List.all_eq_true.1 rfl) rfl (bR ?_)
  exact aL (e:=by unfold fm; rw [if_pos he]; (repeat (first|rw [if_pos (by assumption)]|rw [if_pos (by omega)]|rw [if_neg (by omega)])); rfl)
 refine zR8 ?_
 refine ab rfl ?_ ?_<;>intro h12
 ·refine dO 0 12 ah ?_
  refine ax (zT5 ?_)
  refine aw (gn rfl rfl aA aj) ?_
  refine aw (dI (vs:=er.enc (s.get i.b)) rfl (by repeat constructor) aV aj (ie hB (by simp)) rfl) (zT2 ?_)
  refine aw (ak rfl (J6 (s.get i.b) i.imm)) (aw (bE rfl) ?_)
  refine aw (gn rfl rfl aA aj) (im ?_)
  refine cY rfl rfl aj (by repeat constructor) (fQ (k:=i.a) hA (by simp) (rK (s.get i.b) i.imm)) (by rfl) (fR (k:=i.a) hA (by simp)) (by first|exact Enc.one er _|exact List.all_eq_true.1 rfl) rfl (bR ?_)
  exact aL (e:=by unfold fm; rw [if_pos he]; (repeat (first|rw [if_pos (by assumption)]|rw [if_pos (by omega)]|rw [if_neg (by omega)])); rfl)
 refine zR8 ?_
 refine ab rfl ?_ ?_<;>intro h13
 ·refine dO 0 5 ah ?_
  refine ax (zT2 ?_)
  refine aw (ak rfl (gU 0 1 1)) (aw (bE rfl) ?_)
  refine aw (gn rfl rfl aA aj) (im ?_)
  refine cY rfl rfl aj (by repeat constructor) (fQ (k:=i.a) hA (by simp) (bS 0 1 1)) (by rfl) (fR (k:=i.a) hA (by simp)) (by first|exact Enc.one er _|exact List.all_eq_true.1 rfl) rfl (bR ?_)
  exact aL (e:=by unfold fm; rw [if_pos he]; (repeat (first|rw [if_pos (by assumption)]|rw [if_pos (by omega)]|rw [if_neg (by omega)])); rfl)
 refine zR8 ?_
 refine ab rfl ?_ ?_<;>intro h14
 ·refine cC (zz0 (bE rfl) (zz0 (gn rfl rfl aA aj) ?_))
  refine zz0 (dI (vs:=er.enc (s.get (7:Int))) rfl (by repeat constructor) aV aj (ie ⟨by omega,by omega⟩ (by simp)) rfl) (zz0 (cF rfl) ?_)
  refine zz0 (ak rfl (qg 4 (s.get 7) (fH 4))) (zz0 (bE rfl) ?_)
  refine zz0 (gn rfl rfl aA aj) ?_
  refine cY rfl rfl aj (by repeat constructor) (fQ (k:=(7:Int)) ⟨by omega,by omega⟩ (by simp) (fb 4 (s.get 7) (fH 4))) (by rfl) (fR (k:=(7:Int)) ⟨by omega,by omega⟩ (by simp)) (by first|exact Enc.one er _|exact List.all_eq_true.1 rfl) rfl (bR ?_)
  exact aL (e:=by unfold fm; rw [if_pos he]; (repeat (first|rw [if_pos (by assumption)]|rw [if_pos (by omega)]|rw [if_neg (by omega)])); rfl)
 refine zR6 ?_
 refine cZ 4 112 116 (h2:=zR3 ?_)
 refine ab rfl ?_ ?_<;>intro h16
 ·refine zR3 ?_
  refine zz0 (gn rfl rfl aA aj) ?_
  refine zz0 (dI (vs:=er.enc (s.get (7:Int))) rfl (by repeat constructor) aV aj (ie ⟨by omega,by omega⟩ (by simp)) rfl) (zz0 (cF rfl) ?_)
  refine zz0 (ak rfl (qg 3 (s.get 7) (fH 4))) (zz0 (bE rfl) ?_)
  refine zz0 (gn rfl rfl aA aj) ?_
  refine cY rfl rfl aj (by repeat constructor) (fQ (k:=(7:Int)) ⟨by omega,by omega⟩ (by simp) (fb 3 (s.get 7) (fH 4))) (by rfl) (fR (k:=(7:Int)) ⟨by omega,by omega⟩ (by simp)) (by first|exact Enc.one er _|exact List.all_eq_true.1 rfl) rfl (zR9 ?_)
  refine ab rfl ?_ ?_<;>intro h17
  ·refine dO 0 5 ah ?_
   refine ax (zT2 ?_)
   refine aw (ak rfl gp) (aw (bE rfl) ?_)
   refine aw (gn rfl rfl aA aj) (im ?_)
   refine cY rfl rfl aj (by repeat constructor) (fQ (k:=i.a) hA (by simp) iL) (by rfl) (fR (k:=i.a) hA (by simp)) (by first|exact Enc.one er _|exact List.all_eq_true.1 rfl) rfl (bR ?_)
   exact aL (e:=by unfold fm; rw [if_pos he]; (repeat (first|rw [if_pos (by assumption)]|rw [if_pos (by omega)]|rw [if_neg (by omega)])); rfl)
  refine bR ?_
  exact aL (e:=by unfold fm; rw [if_pos he]; (repeat (first|rw [if_pos (by assumption)]|rw [if_pos (by omega)]|rw [if_neg (by omega)])); rfl)
 refine zR6 ?_
 refine cZ 4 136 140 (h2:=zR3 ?_)
 refine ab rfl ?_ ?_<;>intro h19
 ·refine dx (zz0 (ak rfl gp) ?_)
  refine zz0 (ak rfl tW) (zR6 ?_)
  exact aL (e:=by unfold fm; rw [if_pos he]; (repeat (first|rw [if_pos (by assumption)]|rw [if_pos (by omega)]|rw [if_neg (by omega)])); rfl)
 refine bR ?_
 exact aL (e:=by unfold fm; rw [if_pos he]; (repeat (first|rw [if_pos (by assumption)]|rw [if_pos (by omega)]|rw [if_neg (by omega)])); rfl)
theorem FW (i:Ins) (w:World) (hop:0≤i.op∧i.op≤27) (hcc:-100≤i.cc∧i.cc≤100) (hwd:0≤i.width∧i.width≤4) (ha:0≤i.a∧i.a≤100) (hbb:0≤i.b∧i.b≤100) :
  Calls prog 313 #[.agg (al.enc i).toArray] w (fun e w'=>∃ V,e=.returned V∧Ext w w'∧dY w w' 5 cd (eI i) V):=by
 refine En f313 rfl rfl (zR2 ?_)
 refine bJ rfl rfl (fun b1=>zR7 ?_)
 refine zz0 (gw rfl rfl (by omega)) (zR3 ?_)
 refine zz0 (dS rfl ad ao) (zR8 ?_)
 refine zz0 (ak rfl (pW i.op)) (zR2 ?_)
 refine ab rfl ?_ ?_<;>intro h2
 ·refine pf ?_
  refine ab rfl ?_ ?_<;>intro h3
  ·refine zR4 ?_
   refine zz0 (dS rfl ad ao) (zz0 (af rfl) (gv (E:=cd) [u8 (32+(i.op - 5)),u8 (16 * i.a+i.b)] (vs:=[(0,_),(1,_)]) rfl rfl an bA bT (by rfl) (by rfl) rfl (by first|kernel_rfl|rfl) rfl (fun V4=>zR6 ?_)))
   exact aM eh rfl fun w' hw=>⟨_,rfl,hw.b0,by unfold eI; exact zI (hw.new (.head _))⟩
  refine bR ?_
  refine ab rfl ?_ ?_<;>intro h5
  ·refine zR4 ?_
   refine zz0 (dS rfl ad ao) (zR2 ?_)
   refine zz0 (dS rfl ad ao) (zR2 ?_)
   refine zz0 (pd (n:=256) rfl rfl) ?_
   refine zz0 (jj rfl ac ao) (gv (E:=cd) [u8 (48+(i.op - 5)),u8 i.a,(i.imm % 256).toUInt8] (vs:=[(0,_),(1,_),(2,_)]) rfl rfl an bA bT (by rfl) (by rfl) rfl (by first|kernel_rfl|rfl) rfl (fun V6=>zR6 ?_))
   exact aM eh rfl fun w' hw=>⟨_,rfl,hw.b0,by unfold eI; exact zI (hw.new (.head _))⟩
  refine j8 (bB (bC ([cellE b1 (al.enc i) 36]) 12 rfl ah ?_))
  refine zK [0,1] ?_
  refine zz4 2 rfl (dS rfl ad ao) ?_
  refine zK [3,4] ?_
  refine zz4 5 rfl (dS rfl ad ao) ?_
  refine zK [7,8] ?_
  refine m8 [6,9] (fun iq hq=>?_)
  rcases List.mem_cons.1 hq with rfl|hq
  ·skip
   refine cU rfl ?_
   refine gv (E:=cd) [u8 (64+(i.op - 5)),u8 i.a] (vs:=[(0,_),(1,_)]) rfl rfl an bA bT (by rfl) (by rfl) rfl (by first|kernel_rfl|rfl) rfl (fun V7=>?_)
   refine aC ?_
   refine au 9 rfl ?_
   refine cE rfl lm (fun w hw=>nN i.imm w) rfl (fun V8=>?_)
   refine aC ?_
   refine au 10 rfl ?_
   refine j9 rfl rfl (by repeat constructor) (by repeat constructor) an ip (by rfl) (by rfl) (by simp [ky]) (by unfold maxLen; simp [ky]) rfl (fun V9=>?_)
   refine aC ?_
   refine zz4 11 rfl (cD rfl) ?_
   refine fg (zR3 ?_)
   exact aM eh rfl fun w' hw=>⟨_,rfl,hw.b0,by unfold eI; exact zI (hw.new (.head _))⟩
  obtain rfl:=List.mem_singleton.1 hq
  refine cU rfl ?_
  refine cE rfl lm (fun w hw=>nN i.imm w) rfl (fun V10=>?_)
  refine aC ?_
  refine au 6 rfl ?_
  refine gv (E:=cd) [u8 (64+(i.op - 5)),u8 i.a] (vs:=[(0,_),(1,_)]) rfl rfl an bA bT (by rfl) (by rfl) rfl (by first|kernel_rfl|rfl) rfl (fun V11=>?_)
  refine aC ?_
  refine au 10 rfl ?_
  refine j9 rfl rfl (by repeat constructor) (by repeat constructor) an ip (by rfl) (by rfl) (by simp [ky]) (by unfold maxLen; simp [ky]) rfl (fun V12=>?_)
  refine aC ?_
  refine zz4 11 rfl (cD rfl) ?_
  refine fg (zR3 ?_)
  exact aM eh rfl fun w' hw=>⟨_,rfl,hw.b0,by unfold eI; exact zI (hw.new (.head _))⟩
 refine zR7 ?_
 refine zz0 (ak rfl (lL i.op)) (zR2 ?_)
 refine ab rfl ?_ ?_<;>intro h13
 ·refine bB (bC ([cellE b1 (al.enc i) 36]) 10 rfl ah ?_)
  refine zK [0,3,4,5] ?_
  refine zz4 6 rfl (pd (n:=256) rfl rfl) ?_
  refine zz4 7 rfl (jj rfl ac ao) ?_
  refine au 1 rfl ?_
  refine zz0 (aK rfl (fun w hw=>Gi i w hwd)) ?_
  refine aC ?_
  refine zz4 2 rfl (dS rfl ad ao) ?_
  refine au 8 rfl ?_
  refine gv (E:=cd) [u8 (jw i),u8 (16 * i.a+i.b),(i.imm % 256).toUInt8] (vs:=[(0,_),(1,_),(2,_)]) rfl rfl an bA bT (by rfl) (by rfl) rfl (by first|kernel_rfl|rfl) rfl (fun V14=>?_)
  refine aC ?_
  refine zz4 9 rfl (cD rfl) ?_
  refine fg (zR3 ?_)
  exact aM eh rfl fun w' hw=>⟨_,rfl,hw.b0,by unfold eI; exact zI (hw.new (.head _))⟩
 refine pf ?_
 refine ab rfl ?_ ?_<;>intro h15
 ·refine zR5 ?_
  refine zz0 (pd (n:=256) rfl rfl) ?_
  refine zz0 (jj rfl ac ao) (gv (E:=cd) [90,u8 (16 * i.a+i.b),(i.imm % 256).toUInt8] (vs:=[(0,_),(1,_),(2,_)]) rfl rfl an bA bT (by rfl) (by rfl) rfl (by first|kernel_rfl|rfl) rfl (fun V16=>zR6 ?_))
  exact aM eh rfl fun w' hw=>⟨_,rfl,hw.b0,by unfold eI; exact zI (hw.new (.head _))⟩
 refine zR6 ?_
 refine ab rfl ?_ ?_<;>intro h17
 ·refine zR8 ?_
  refine ab rfl ?_ ?_<;>intro h18
  ·refine zR5 ?_
   refine zz0 (dS rfl ad ao) (zR5 ?_)
   refine zz0 (gK (n:=2) rfl rfl) ?_
   refine zz0 (pd (n:=256) rfl rfl) ?_
   refine zz0 (jj rfl ac ao) (gv (E:=cd) [u8 (96+i.cc),((i.imm - i.addr - 2) % 256).toUInt8] (vs:=[(0,_),(1,_)]) rfl rfl an bA bT (by rfl) (by rfl) rfl (by first|kernel_rfl|rfl) rfl (fun V19=>zR7 ?_))
   exact aM eh rfl fun w' hw=>⟨_,rfl,hw.b0,by unfold eI; exact zI (hw.new (.head _))⟩
  refine j8 (bB (bC ([cellE b1 (al.enc i) 36]) 14 rfl ah ?_))
  refine zK [0,1,2] ?_
  refine zz4 3 rfl (dS rfl ad ao) ?_
  refine zK [5,6,7,8,9] ?_
  refine zz4 10 rfl (gK (n:=5) rfl rfl) ?_
  refine m8 [4,11] (fun iq hq=>?_)
  rcases List.mem_cons.1 hq with rfl|hq
  ·skip
   refine cU rfl ?_
   refine fM (E:=cd) _ rfl rfl an bA bT (fun V20=>?_)
   refine aC ?_
   refine au 11 rfl ?_
   refine cE rfl lm (fun w hw=>nN (i.imm - i.addr - 5) w) rfl (fun V21=>?_)
   refine aC ?_
   refine au 12 rfl ?_
   refine j9 rfl rfl (by repeat constructor) (by repeat constructor) an ip (by rfl) (by rfl) (by simp [ky]) (by unfold maxLen; simp [ky]) rfl (fun V22=>?_)
   refine aC ?_
   refine zz4 13 rfl (cD rfl) ?_
   refine fg (zR4 ?_)
   exact aM eh rfl fun w' hw=>⟨_,rfl,hw.b0,by unfold eI; exact zI (hw.new (.head _))⟩
  obtain rfl:=List.mem_singleton.1 hq
  refine cU rfl ?_
  refine cE rfl lm (fun w hw=>nN (i.imm - i.addr - 5) w) rfl (fun V23=>?_)
  refine aC ?_
  refine au 4 rfl ?_
  refine fM (E:=cd) _ rfl rfl an bA bT (fun V24=>?_)
  refine aC ?_
  refine au 12 rfl ?_
  refine j9 rfl rfl (by repeat constructor) (by repeat constructor) an ip (by rfl) (by rfl) (by simp [ky]) (by unfold maxLen; simp [ky]) rfl (fun V25=>?_)
  refine aC ?_
  refine zz4 13 rfl (cD rfl) ?_
  refine fg (zR4 ?_)
  exact aM eh rfl fun w' hw=>⟨_,rfl,hw.b0,by unfold eI; exact zI (hw.new (.head _))⟩
 refine zR6 ?_
 refine ab rfl ?_ ?_<;>intro h26
 ·refine dx (fM (E:=cd) (128:UInt8) rfl rfl an bA bT (fun V27=>zR5 ?_))
  refine zz0 (gK (n:=5) rfl rfl) ?_
  refine cE rfl lm (fun w hw=>nN (i.imm - i.addr - 5) w) rfl (fun V28=>?_)
  refine j9 rfl rfl (by repeat constructor) (by repeat constructor) an ip (by rfl) (by rfl) (by simp [ky]) (by unfold maxLen; simp [ky]) rfl (fun V29=>zR6 ?_)
  exact aM eh rfl fun w' hw=>⟨_,rfl,hw.b0,by unfold eI; exact zI (hw.new (.head _))⟩
 refine zR6 ?_
 refine ab rfl ?_ ?_<;>intro h30
 ·refine bB (bC ([cellE b1 (al.enc i) 36]) 9 rfl ah ?_)
  refine zK [0,1] ?_
  refine zz4 2 rfl (dS rfl ad ao) ?_
  refine zK [4,5] ?_
  refine m8 [3,6] (fun iq hq=>?_)
  rcases List.mem_cons.1 hq with rfl|hq
  ·skip
   refine cU rfl ?_
   refine gv (E:=cd) [131,u8 i.a] (vs:=[(0,_),(1,_)]) rfl rfl an bA bT (by rfl) (by rfl) rfl (by first|kernel_rfl|rfl) rfl (fun V31=>?_)
   refine aC ?_
   refine au 6 rfl ?_
   refine cE rfl lm (fun w hw=>nN i.imm w) rfl (fun V32=>?_)
   refine aC ?_
   refine au 7 rfl ?_
   refine j9 rfl rfl (by repeat constructor) (by repeat constructor) an ip (by rfl) (by rfl) (by simp [ky]) (by unfold maxLen; simp [ky]) rfl (fun V33=>?_)
   refine aC ?_
   refine zz4 8 rfl (cD rfl) ?_
   refine fg (zR4 ?_)
   exact aM eh rfl fun w' hw=>⟨_,rfl,hw.b0,by unfold eI; exact zI (hw.new (.head _))⟩
  obtain rfl:=List.mem_singleton.1 hq
  refine cU rfl ?_
  refine cE rfl lm (fun w hw=>nN i.imm w) rfl (fun V34=>?_)
  refine aC ?_
  refine au 3 rfl ?_
  refine gv (E:=cd) [131,u8 i.a] (vs:=[(0,_),(1,_)]) rfl rfl an bA bT (by rfl) (by rfl) rfl (by first|kernel_rfl|rfl) rfl (fun V35=>?_)
  refine aC ?_
  refine au 7 rfl ?_
  refine j9 rfl rfl (by repeat constructor) (by repeat constructor) an ip (by rfl) (by rfl) (by simp [ky]) (by unfold maxLen; simp [ky]) rfl (fun V36=>?_)
  refine aC ?_
  refine zz4 8 rfl (cD rfl) ?_
  refine fg (zR4 ?_)
  exact aM eh rfl fun w' hw=>⟨_,rfl,hw.b0,by unfold eI; exact zI (hw.new (.head _))⟩
 refine zR6 ?_
 refine cE rfl call330 (fun w hw=>J0 i w hcc) rfl (fun V37=>zR4 ?_)
 exact aM eh rfl fun w' hw=>⟨_,rfl,hw.b0,by unfold eI; exact zI (hw.new (.head _))⟩
theorem s5 (i:Ins) (w:World) (hI:InsOK i) :
  Cr prog 282 #[.agg (al.enc i).toArray] w (.int .i64 (oH i)):=by
 refine En f282 rfl rfl (zR2 ?_)
 refine bJ rfl rfl (fun b1=>zR7 ?_)
 refine zz0 (ak rfl (jm i)) (zR3 ?_)
 refine ab rfl ?_ ?_<;>intro h2
 ·refine zR7 ?_
  exact aD (e:=by unfold oH; rw [if_neg (by assumption)])
 refine zR3 ?_
 have he:gP i=0:=(by first|assumption|grind)
 have hv:=Co he
 refine zR2 ?_
 refine cE rfl call313 (fun w hw=>FW i w hv.1 hv.2.1 hv.2.2.1 hv.2.2.2.1 hv.2.2.2.2) rfl (fun V3=>zR5 ?_)
 exact aD (e:=by unfold oH; rw [if_pos he])
theorem wI (i:Ins) (w:World) (hI:InsOK i) :
  Cr prog 243 #[.agg (al.enc i).toArray] w (.int .u32 (i.addr+u32 (oH i)).toNat):=by
 refine En f243 rfl rfl (zR2 ?_)
 refine bJ rfl rfl (fun b1=>zR4 ?_)
 refine eU ah (zT3 ?_)
 refine aw (aK rfl (fun w hw=>s5 i w hI)) ?_
 refine aw (eJ rfl ad ac) (zT5 ?_)
 exact aD (e:=rfl)
theorem wJ (i:Ins) (w:World) :
  Cr prog 242 #[.agg (al.enc i).toArray] w (.bool (jf i)):=by
 refine En f242 rfl rfl (zR2 ?_)
 refine bJ rfl rfl (fun b1=>zR9 ?_)
 refine cZ 4 6 10 (h2:=?_)
 refine zz0 (af rfl) ?_
 refine cZ 4 11 15 (h2:=?_)
 refine zz0 (af rfl) ?_
 refine cZ 4 16 20 (h2:=?_)
 refine zz0 (af rfl) ?_
 apply gA
 ·exact (rfl:_=(9,21,30))
 ·exact rfl
 ·intro hF5; have hF5':=hF5
  try simp only [bs] at hF5'
  refine zR4 ?_
  apply fC
  ·exact (rfl:_=(4,25,29))
  ·exact rfl
  ·intro hT6; have hT6':=hT6
   try simp only [bs] at hT6'
   refine zR6 ?_
   exact aN (Sub.cons rfl (zz7 4 rfl))
  ·intro hF6
   refine zR6 ?_
   exact aN (Sub.cons rfl (zz7 4 rfl))
  refine zR3 ?_
  exact aN (Sub.cons rfl (zz7 6 rfl))
 ·intro hT5
  refine cj ?_
  exact aN (Sub.cons rfl (zz7 9 rfl))
 refine zR4 ?_
 exact aD (e:=by unfold jf; congr 2; rw [Bool.eq_iff_iff]; simp; omega)
theorem sZ (i:Ins) (w:World) :
  Cr prog 240 #[.agg (al.enc i).toArray] w (.tuple #[.int .u32 (bG i).1.toNat,.bool (bG i).2]):=by
 refine En f240 rfl rfl (zR2 ?_)
 refine bJ rfl rfl (fun b1=>cj ?_)
 refine cZ 4 7 11 (h2:=zR2 ?_)
 refine ab rfl ?_ ?_<;>intro h3
 ·refine bR ?_
  exact dR (e:=by unfold bG; exact zH)
 refine zR9 ?_
 exact dR (e:=by unfold bG; exact zH)
theorem JE (c:Int) (w:World) :
  Cr prog 279 #[.int .i64 c] w (.int .i64 (eQ c)):=by
 refine En f279 rfl rfl (df ?_)
 apply gA
 ·exact (rfl:_=(7,6,13))
 ·exact rfl
 ·intro hF1; have hF1':=hF1
  try simp only [bs] at hF1'
  refine zR3 ?_
  apply fC
  ·exact (rfl:_=(3,9,12))
  ·exact rfl
  ·intro hT2; have hT2':=hT2
   try simp only [bs] at hT2'
   refine zR5 ?_
   exact aN (Sub.cons rfl (zz7 3 rfl))
  ·intro hF2
   refine zR5 ?_
   exact aN (Sub.cons rfl (zz7 3 rfl))
  refine zR3 ?_
  exact aN (Sub.cons rfl (zz7 5 rfl))
 ·intro hT1
  refine zR9 ?_
  exact aN (Sub.cons rfl (zz7 7 rfl))
 refine zR3 ?_
 refine ab rfl ?_ ?_<;>intro h3
 ·refine zR8 ?_
  exact aD (e:=by unfold eQ; exact zH)
 refine zR5 ?_
 refine dT 3 17 20 (h2:=?_)
 refine zz0 (af rfl) ?_
 apply gA
 ·exact (rfl:_=(7,21,28))
 ·exact rfl
 ·intro hF5; have hF5':=hF5
  try simp only [bs] at hF5'
  refine zR3 ?_
  apply fC
  ·exact (rfl:_=(3,24,27))
  ·exact rfl
  ·intro hT6; have hT6':=hT6
   try simp only [bs] at hT6'
   refine zR5 ?_
   exact aN (Sub.cons rfl (zz7 3 rfl))
  ·intro hF6
   refine zR5 ?_
   exact aN (Sub.cons rfl (zz7 3 rfl))
  refine zR3 ?_
  exact aN (Sub.cons rfl (zz7 5 rfl))
 ·intro hT5
  refine zR9 ?_
  exact aN (Sub.cons rfl (zz7 7 rfl))
 refine zz0 (af rfl) ?_
 refine cZ 3 29 32 (h2:=?_)
 refine zz0 (af rfl) ?_
 refine cZ 3 33 36 (h2:=?_)
 refine zz0 (af rfl) ?_
 apply gA
 ·exact (rfl:_=(7,37,44))
 ·exact rfl
 ·intro hF9; have hF9':=hF9
  try simp only [bs] at hF9'
  refine zR3 ?_
  apply fC
  ·exact (rfl:_=(3,40,43))
  ·exact rfl
  ·intro hT10; have hT10':=hT10
   try simp only [bs] at hT10'
   refine zR5 ?_
   exact aN (Sub.cons rfl (zz7 3 rfl))
  ·intro hF10
   refine zR5 ?_
   exact aN (Sub.cons rfl (zz7 3 rfl))
  refine zR3 ?_
  exact aN (Sub.cons rfl (zz7 5 rfl))
 ·intro hT9
  refine zR9 ?_
  exact aN (Sub.cons rfl (zz7 7 rfl))
 refine zz0 (af rfl) ?_
 refine cZ 3 45 48 (h2:=?_)
 refine zz0 (af rfl) ?_
 refine cZ 3 49 52 (h2:=zR3 ?_)
 refine ab rfl ?_ ?_<;>intro h13
 ·refine zR8 ?_
  exact aD (e:=by unfold eQ; exact zH)
 refine zR5 ?_
 refine dT 3 56 59 (h2:=?_)
 refine zz0 (af rfl) ?_
 apply gA
 ·exact (rfl:_=(7,60,67))
 ·exact rfl
 ·intro hF15; have hF15':=hF15
  try simp only [bs] at hF15'
  refine zR3 ?_
  apply fC
  ·exact (rfl:_=(3,63,66))
  ·exact rfl
  ·intro hT16; have hT16':=hT16
   try simp only [bs] at hT16'
   refine zR5 ?_
   exact aN (Sub.cons rfl (zz7 3 rfl))
  ·intro hF16
   refine zR5 ?_
   exact aN (Sub.cons rfl (zz7 3 rfl))
  refine zR3 ?_
  exact aN (Sub.cons rfl (zz7 5 rfl))
 ·intro hT15
  refine zR9 ?_
  exact aN (Sub.cons rfl (zz7 7 rfl))
 refine zz0 (af rfl) ?_
 refine cZ 3 68 71 (h2:=zR3 ?_)
 refine ab rfl ?_ ?_<;>intro h18
 ·refine zR8 ?_
  exact aD (e:=by unfold eQ; exact zH)
 refine zR5 ?_
 refine dT 3 75 78 (h2:=?_)
 refine zz0 (af rfl) ?_
 refine cZ 3 79 82 (h2:=zR3 ?_)
 refine ab rfl ?_ ?_<;>intro h21
 ·refine zR8 ?_
  exact aD (e:=by unfold eQ; exact zH)
 refine zR5 ?_
 refine dT 3 86 89 (h2:=?_)
 refine zz0 (af rfl) ?_
 refine cZ 3 90 93 (h2:=zR3 ?_)
 refine ab rfl ?_ ?_<;>intro h24
 ·refine zR8 ?_
  exact aD (e:=by unfold eQ; exact zH)
 refine zR9 ?_
 exact aD (e:=by unfold eQ; exact zH)
theorem qC (c:UInt8) (w:World) :
  Cr prog 310 #[.int .u8 c.toNat] w (.int .u32 (nR c).toNat):=by
 refine En f310 rfl rfl (zR9 ?_)
 refine zz0 (rb (n:=128) rfl rfl) (zR2 ?_)
 refine ab rfl ?_ ?_<;>intro h1
 ·refine zR3 ?_
  refine zz0 (dW rfl ao ac) (zR5 ?_)
  exact aD (e:=by unfold nR; exact zH)
 refine zR5 ?_
 refine zz0 (dW rfl ao ac) (zz0 (gl (n:=4294967040) rfl rfl) (zR4 ?_))
 exact aD (e:=by unfold nR; exact zH)
theorem oG (l:List UInt8) (V:Value) (w:World) (hV:Sl (hp w) cd l V) (hl:4≤l.length) :
  Cr prog 311 #[V] w (.int .u32 (iO l 0).toNat):=by
 have hV':Sl (Bg.of w).blk cd l V:=hV
 have hlen:=hV.len_le
 refine En f311 rfl rfl (zR6 ?_)
 refine eU ah (zT3 ?_)
 refine aw (dW rfl ao ac) (zT3 ?_)
 refine aw (dW rfl ao ac) (aw (oq (m:=256) rfl rfl) (zT4 ?_))
 refine aw (dW rfl ao ac) (aw (oq (m:=65536) rfl rfl) (zT4 ?_))
 refine aw (dW rfl ao ac) (aw (oq (m:=16777216) rfl rfl) (zT5 ?_))
 exact aD (e:=rfl)
theorem Ao (c:Int) (w:World) :
  Cr prog 327 #[.int .i64 c] w (.tuple #[.int .i64 (jL c).1,.int .i64 (jL c).2]):=by
 refine En f327 rfl rfl (K8 ?_)
 refine ab rfl ?_ ?_<;>intro h1
 ·refine zR9 ?_
  exact dR (e:=by unfold jL; exact zH)
 refine zR6 ?_
 refine ab rfl ?_ ?_<;>intro h2
 ·refine zR9 ?_
  exact dR (e:=by unfold jL; exact zH)
 refine zR6 ?_
 refine ab rfl ?_ ?_<;>intro h3
 ·refine zR9 ?_
  exact dR (e:=by unfold jL; exact zH)
 refine zR6 ?_
 refine ab rfl ?_ ?_<;>intro h4
 ·refine zR9 ?_
  exact dR (e:=by unfold jL; exact zH)
 refine zR6 ?_
 refine ab rfl ?_ ?_<;>intro h5
 ·refine zR9 ?_
  exact dR (e:=by unfold jL; exact zH)
 refine zR6 ?_
 refine ab rfl ?_ ?_<;>intro h6
 ·refine zR9 ?_
  exact dR (e:=by unfold jL; exact zH)
 refine zR6 ?_
 refine ab rfl ?_ ?_<;>intro h7
 ·refine zR9 ?_
  exact dR (e:=by unfold jL; exact zH)
 refine bR ?_
 exact dR (e:=by unfold jL; exact zH)
theorem CL (c:Int) (b:List UInt8) (V:Value) (addr:UInt32) (sz:Int) (w:World) (hV:Sl (hp w) cd b V) (hb:(b.length:Int)=eQ c) (hc:0≤c∧c≤255) (hz:eQ c≠0) (hn:¬ (32≤c∧c≤42∨48≤c∧c≤58∨64≤c∧c≤74)) :
  Cr prog 312 #[.int .i64 c,V,.agg (al.enc ⟨addr,0,0,0,0,0,0,0,sz⟩).toArray] w (.agg (al.enc (eB c b ⟨addr,0,0,0,0,0,0,0,sz⟩)).toArray):=by
 have hV':Sl (Bg.of w).blk cd b V:=hV
 have hlen:=hV.len_le
 have hsp:=wF (c:=c)
 have hsz:=AY hz
 refine En f312 rfl rfl (zR2 ?_)
 refine bJ rfl rfl (fun b1=>?_)
 refine bH aF rfl (fun b2=>zR8 ?_)
 refine zz0 (eJ rfl ad ac) (zR4 ?_)
 refine dZ (.of (ι:=Ins) (fun k=>k=eB c b ⟨addr,0,0,0,0,0,0,0,sz⟩) (fun _=>Bg.of w) (fun k=>[cellE b1 (al.enc k) 36,cellE b2 (al.enc bh) 36]) (fun k=>[])) ?_ (fun k hi=>?_)
 ·skip
  refine zR8 ?_
  refine ab rfl ?_ ?_<;>intro h3
  ·refine zR3 ?_
   refine zz1 (cs':=[_,_,_,_,_,_,_,_,_]) rfl rfl aH rfl ?_
   refine zR3 ?_
   apply bO ⟨addr,0,c,0,0,0,0,0,sz⟩
   ·exact rfl
   ·exact Front.nil
   ·exact zz9 5 rfl
   ·exact (by repeat' constructor)
   exact (by unfold eB kJ; exact zG)
  refine zR7 ?_
  refine ab rfl ?_ ?_<;>intro h4
  ·refine zR4 ?_
   refine zz1 (cs':=[_,_,_,_,_,_,_,_,_]) rfl rfl aH rfl ?_
   refine zz0 (bE rfl) (zz1 (cs':=[_,_,_,_,_,_,_,_,_]) rfl rfl aH rfl ?_)
   refine zR3 ?_
   apply bO ⟨addr,0,3,0,0,0,c - 8,0,sz⟩
   ·exact rfl
   ·exact Front.nil
   ·exact zz9 10 rfl
   ·exact (by repeat' constructor)
   exact (by unfold eB kJ; exact zG)
  refine zR7 ?_
  refine ab rfl ?_ ?_<;>intro h5
  ·refine zR4 ?_
   refine zz1 (cs':=[_,_,_,_,_,_,_,_,_]) rfl rfl aH rfl ?_
   refine zz0 (bE rfl) (zz1 (cs':=[_,_,_,_,_,_,_,_,_]) rfl rfl aH rfl ?_)
   refine zR3 ?_
   apply bO ⟨addr,0,4,0,0,0,c - 16,0,sz⟩
   ·exact rfl
   ·exact Front.nil
   ·exact zz9 13 rfl
   ·exact (by repeat' constructor)
   exact (by unfold eB kJ; exact zG)
  refine zR7 ?_
  refine ab rfl ?_ ?_<;>intro h6
  ·refine zR3 ?_
   refine zz0 (ak rfl (Ao c)) (zR4 ?_)
   refine zz1 (cs':=[_,_,_,_,_,_,_,_,_]) rfl rfl aH rfl ?_
   refine zz0 (bE rfl) (zz1 (cs':=[_,_,_,_,_,_,_,_,_]) rfl rfl aH rfl ?_)
   refine Gr (bC ([cellE b2 (al.enc bh) 36]) 20 rfl ah ?_)
   refine zK [0,1,2] ?_
   refine jx 3 rfl (by kernel_rfl) (eF (aY cX)) (Dz (n:=16) rfl rfl (by first|decide|assumption)) ?_
   refine zz4 4 rfl (dh rfl ao ad) ?_
   refine zK [5,6,7] ?_
   refine jx 8 rfl (by kernel_rfl) (eF (aY cX)) (Dy (n:=16) rfl rfl (by first|decide|assumption)) ?_
   refine zz4 9 rfl (dh rfl ao ad) ?_
   refine zK [10,11,12,14] ?_
   refine au 13 rfl ?_
   refine zz0 (ak rfl (qC (b.getD 2 default))) ?_
   refine aC ?_
   refine au 15 rfl ?_
   refine zz1 (cs':=[_,_,_,_,_,_,_,_,_]) rfl rfl aH rfl ?_
   refine aC ?_
   refine zz4 16 rfl (bE rfl) ?_
   refine au 17 rfl ?_
   refine zz1 (cs':=[_,_,_,_,_,_,_,_,_]) rfl rfl aH rfl ?_
   refine aC ?_
   refine zz4 18 rfl (bE rfl) ?_
   refine au 19 rfl ?_
   refine zz1 (cs':=[_,_,_,_,_,_,_,_,_]) rfl rfl ar rfl ?_
   refine aC ?_
   refine fg (zR2 ?_)
   apply bO ⟨addr,nR (b.getD 2 default),(jL c).1,0,(jL c).2,0,((b.getD 1 default) / 16).toNat,((b.getD 1 default) % 16).toNat,sz⟩
   ·exact rfl
   ·exact Front.nil
   ·exact zz9 36 rfl
   ·exact (by repeat' constructor)
   exact (by unfold eB kJ; exact zG)
  refine zR7 ?_
  refine ab rfl ?_ ?_<;>intro h7
  ·refine bC ([cellE b2 (al.enc bh) 36]) 22 rfl ah ?_
   refine zK [0,1,2] ?_
   refine jx 3 rfl (by kernel_rfl) (eF (aY cX)) (Dz (n:=16) rfl rfl (by first|decide|assumption)) ?_
   refine zz4 4 rfl (dh rfl ao ad) ?_
   refine zK [5,6,7] ?_
   refine jx 8 rfl (by kernel_rfl) (eF (aY cX)) (Dy (n:=16) rfl rfl (by first|decide|assumption)) ?_
   refine zz4 9 rfl (dh rfl ao ad) ?_
   refine zK [10,11,12,14] ?_
   refine au 13 rfl ?_
   refine zz0 (ak rfl (qC (b.getD 2 default))) ?_
   refine aC ?_
   refine au 15 rfl ?_
   refine zz1 (cs':=[_,_,_,_,_,_,_,_,_]) rfl rfl aH rfl ?_
   refine aC ?_
   refine zz4 16 rfl (bE rfl) ?_
   refine au 17 rfl ?_
   refine zz1 (cs':=[_,_,_,_,_,_,_,_,_]) rfl rfl aH rfl ?_
   refine aC ?_
   refine zz4 18 rfl (bE rfl) ?_
   refine au 19 rfl ?_
   refine zz1 (cs':=[_,_,_,_,_,_,_,_,_]) rfl rfl aH rfl ?_
   refine aC ?_
   refine zz4 20 rfl (bE rfl) ?_
   refine au 21 rfl ?_
   refine zz1 (cs':=[_,_,_,_,_,_,_,_,_]) rfl rfl ar rfl ?_
   refine aC ?_
   refine fg (zR2 ?_)
   apply bO ⟨addr,nR (b.getD 2 default),19,0,0,0,((b.getD 1 default) / 16).toNat,((b.getD 1 default) % 16).toNat,sz⟩
   ·exact rfl
   ·exact Front.nil
   ·exact zz9 33 rfl
   ·exact (by repeat' constructor)
   exact (by unfold eB kJ; exact zG)
  refine zR7 ?_
  refine ab rfl ?_ ?_<;>intro h8
  ·refine zR7 ?_
   refine zz0 (ak rfl (qC (b.getD 1 default))) (zR2 ?_)
   refine zz1 (cs':=[_,_,_,_,_,_,_,_,_]) rfl rfl aH rfl ?_
   refine zz0 (bE rfl) (zz1 (cs':=[_,_,_,_,_,_,_,_,_]) rfl rfl aH rfl ?_)
   refine zz0 (bE rfl) (zz1 (cs':=[_,_,_,_,_,_,_,_,_]) rfl rfl aH rfl ?_)
   refine zz0 (bE rfl) (zz1 (cs':=[_,_,_,_,_,_,_,_,_]) rfl rfl ar rfl ?_)
   refine zR3 ?_
   apply bO ⟨addr,(addr+u32 sz)+nR (b.getD 1 default),20,1,0,c - 96,0,0,sz⟩
   ·exact rfl
   ·exact Front.nil
   ·exact zz9 30 rfl
   ·exact (by repeat' constructor)
   exact (by unfold eB kJ; exact zG)
  refine zR7 ?_
  refine ab rfl ?_ ?_<;>intro h9
  ·refine zR5 ?_
   refine zz0 (rr (lv:=some (_,_)) (hv:=none) rfl rfl rfl an bA) ?_
   refine zz0 (aK rfl (fun w hw=>oG ((b.take (b.length:Int).toNat).drop (1:Int).toNat) _ w (hw.slF (Sl.resl hV' (by omega) (by omega))) (by simp; omega))) (zR2 ?_)
   refine zz1 (cs':=[_,_,_,_,_,_,_,_,_]) rfl rfl aH rfl ?_
   refine zz0 (bE rfl) (zz1 (cs':=[_,_,_,_,_,_,_,_,_]) rfl rfl aH rfl ?_)
   refine zz0 (bE rfl) (zz1 (cs':=[_,_,_,_,_,_,_,_,_]) rfl rfl aH rfl ?_)
   refine zz0 (bE rfl) (zz1 (cs':=[_,_,_,_,_,_,_,_,_]) rfl rfl ar rfl ?_)
   refine zR3 ?_
   rw [show iO ((b.take (b.length:Int).toNat).drop (1:Int).toNat) 0=iO b 1 from sF (k:=1) (by omega)]
   apply bO ⟨addr,(addr+u32 sz)+iO b 1,20,2,0,c - 112,0,0,sz⟩
   ·exact rfl
   ·exact Front.nil
   ·exact zz9 32 rfl
   ·exact (by repeat' constructor)
   exact (by unfold eB kJ; exact zG)
  refine zR7 ?_
  refine ab rfl ?_ ?_<;>intro h10
  ·refine zR3 ?_
   refine zz0 (rr (lv:=some (_,_)) (hv:=none) rfl rfl rfl an bA) ?_
   refine zz0 (aK rfl (fun w hw=>oG ((b.take (b.length:Int).toNat).drop (1:Int).toNat) _ w (hw.slF (Sl.resl hV' (by omega) (by omega))) (by simp; omega))) (zR2 ?_)
   refine zz1 (cs':=[_,_,_,_,_,_,_,_,_]) rfl rfl aH rfl ?_
   refine zz0 (bE rfl) (zz1 (cs':=[_,_,_,_,_,_,_,_,_]) rfl rfl ar rfl ?_)
   refine zR3 ?_
   rw [show iO ((b.take (b.length:Int).toNat).drop (1:Int).toNat) 0=iO b 1 from sF (k:=1) (by omega)]
   apply bO ⟨addr,(addr+u32 sz)+iO b 1,23,0,0,0,0,0,sz⟩
   ·exact rfl
   ·exact Front.nil
   ·exact zz9 31 rfl
   ·exact (by repeat' constructor)
   exact (by unfold eB kJ; exact zG)
  refine zR7 ?_
  refine ab rfl ?_ ?_<;>intro h11
  ·refine bC ([cellE b2 (al.enc bh) 36]) 8 rfl ah ?_
   refine zK [0,1,2] ?_
   refine zz4 3 rfl (dh rfl ao ad) ?_
   refine zz4 4 rfl (bE rfl) ?_
   refine au 5 rfl ?_
   refine zz1 (cs':=[_,_,_,_,_,_,_,_,_]) rfl rfl aH rfl ?_
   refine aC ?_
   refine zz4 6 rfl (bE rfl) ?_
   refine au 7 rfl ?_
   refine zz1 (cs':=[_,_,_,_,_,_,_,_,_]) rfl rfl aH rfl ?_
   refine aC ?_
   refine fg (zR2 ?_)
   apply bO ⟨addr,0,24,0,0,0,(b.getD 1 default).toNat,0,sz⟩
   ·exact rfl
   ·exact Front.nil
   ·exact zz9 33 rfl
   ·exact (by repeat' constructor)
   exact (by unfold eB kJ; exact zG)
  refine zR7 ?_
  refine ab rfl ?_ ?_<;>intro h12
  ·refine bC ([cellE b2 (al.enc bh) 36]) 8 rfl ah ?_
   refine zK [0,1,2] ?_
   refine zz4 3 rfl (dh rfl ao ad) ?_
   refine zz4 4 rfl (bE rfl) ?_
   refine au 5 rfl ?_
   refine zz1 (cs':=[_,_,_,_,_,_,_,_,_]) rfl rfl aH rfl ?_
   refine aC ?_
   refine zz4 6 rfl (bE rfl) ?_
   refine au 7 rfl ?_
   refine zz1 (cs':=[_,_,_,_,_,_,_,_,_]) rfl rfl aH rfl ?_
   refine aC ?_
   refine fg (zR2 ?_)
   apply bO ⟨addr,0,21,0,0,0,(b.getD 1 default).toNat,0,sz⟩
   ·exact rfl
   ·exact Front.nil
   ·exact zz9 36 rfl
   ·exact (by repeat' constructor)
   exact (by unfold eB kJ; exact zG)
  refine zR7 ?_
  refine ab rfl ?_ ?_<;>intro h13
  ·refine bC ([cellE b2 (al.enc bh) 36]) 13 rfl ah ?_
   refine zK [0,1,2] ?_
   refine zz4 3 rfl (dh rfl ao ad) ?_
   refine zz4 4 rfl (af rfl) ?_
   refine zz4 5 rfl (rr (lv:=some (_,_)) (hv:=none) rfl rfl rfl an bA) ?_
   refine zz4 7 rfl (bE rfl) ?_
   refine au 6 rfl ?_
   refine zz0 (aK rfl (fun w hw=>oG ((b.take (b.length:Int).toNat).drop (2:Int).toNat) _ w (hw.slF (Sl.resl hV' (by omega) (by omega))) (by simp; omega))) ?_
   refine aC ?_
   refine au 8 rfl ?_
   refine zz1 (cs':=[_,_,_,_,_,_,_,_,_]) rfl rfl aH rfl ?_
   refine aC ?_
   refine zz4 9 rfl (bE rfl) ?_
   refine au 10 rfl ?_
   refine zz1 (cs':=[_,_,_,_,_,_,_,_,_]) rfl rfl aH rfl ?_
   refine aC ?_
   refine zz4 11 rfl (bE rfl) ?_
   refine au 12 rfl ?_
   refine zz1 (cs':=[_,_,_,_,_,_,_,_,_]) rfl rfl ar rfl ?_
   refine aC ?_
   refine fg (zR2 ?_)
   rw [show iO ((b.take (b.length:Int).toNat).drop (2:Int).toNat) 0=iO b 2 from sF (k:=2) (by omega)]
   apply bO ⟨addr,iO b 2,22,0,0,0,(b.getD 1 default).toNat,0,sz⟩
   ·exact rfl
   ·exact Front.nil
   ·exact zz9 43 rfl
   ·exact (by repeat' constructor)
   exact (by unfold eB kJ; exact zG)
  refine zR7 ?_
  refine ab rfl ?_ ?_<;>intro h14
  ·refine bC ([cellE b2 (al.enc bh) 36]) 12 rfl ah ?_
   refine zK [0,1,2,3,4] ?_
   refine zz4 5 rfl (dh rfl ao ad) ?_
   refine zz4 6 rfl (bE rfl) ?_
   refine au 7 rfl ?_
   refine zz1 (cs':=[_,_,_,_,_,_,_,_,_]) rfl rfl aH rfl ?_
   refine aC ?_
   refine zz4 8 rfl (bE rfl) ?_
   refine au 9 rfl ?_
   refine zz1 (cs':=[_,_,_,_,_,_,_,_,_]) rfl rfl aH rfl ?_
   refine aC ?_
   refine zz4 10 rfl (bE rfl) ?_
   refine au 11 rfl ?_
   refine zz1 (cs':=[_,_,_,_,_,_,_,_,_]) rfl rfl aH rfl ?_
   refine aC ?_
   refine fg (zR2 ?_)
   apply bO ⟨addr,0,25,0,0,c - 144,(b.getD 1 default).toNat,0,sz⟩
   ·exact rfl
   ·exact Front.nil
   ·exact zz9 45 rfl
   ·exact (by repeat' constructor)
   exact (by unfold eB kJ; exact zG)
  refine zR7 ?_
  refine ab rfl ?_ ?_<;>intro h15
  ·refine bC ([cellE b2 (al.enc bh) 36]) 8 rfl ah ?_
   refine zK [0,1,2] ?_
   refine zz4 3 rfl (dh rfl ao ad) ?_
   refine zz4 4 rfl (bE rfl) ?_
   refine au 5 rfl ?_
   refine zz1 (cs':=[_,_,_,_,_,_,_,_,_]) rfl rfl aH rfl ?_
   refine aC ?_
   refine zz4 6 rfl (bE rfl) ?_
   refine au 7 rfl ?_
   refine zz1 (cs':=[_,_,_,_,_,_,_,_,_]) rfl rfl aH rfl ?_
   refine aC ?_
   refine fg (zR2 ?_)
   apply bO ⟨addr,0,26,0,0,0,(b.getD 1 default).toNat,0,sz⟩
   ·exact rfl
   ·exact Front.nil
   ·exact zz9 45 rfl
   ·exact (by repeat' constructor)
   exact (by unfold eB kJ; exact zG)
  refine bC ([cellE b2 (al.enc bh) 36]) 8 rfl ah ?_
  refine zK [0,1,2] ?_
  refine zz4 3 rfl (dh rfl ao ad) ?_
  refine zz4 4 rfl (bE rfl) ?_
  refine au 5 rfl ?_
  refine zz1 (cs':=[_,_,_,_,_,_,_,_,_]) rfl rfl aH rfl ?_
  refine aC ?_
  refine zz4 6 rfl (bE rfl) ?_
  refine au 7 rfl ?_
  refine zz1 (cs':=[_,_,_,_,_,_,_,_,_]) rfl rfl aH rfl ?_
  refine aC ?_
  refine fg (zR2 ?_)
  apply bO ⟨addr,0,27,0,0,0,(b.getD 1 default).toNat,0,sz⟩
  ·exact rfl
  ·exact Front.nil
  ·exact zz9 45 rfl
  ·exact (by repeat' constructor)
  exact (by unfold eB kJ; exact zG)
 skip
 refine zR7 ?_
 exact aL (e:=by rw [hi]; rfl)
theorem HE (b:List UInt8) (V:Value) (addr:UInt32) (sz:Int) (w:World) (hV:Sl (hp w) cd b V) (hb:(b.length:Int)=eQ (b.getD 0 default).toNat) (hz:eQ (b.getD 0 default).toNat≠0) :
  Cr prog 280 #[V,.agg (al.enc ⟨addr,0,0,0,0,0,0,0,sz⟩).toArray] w (.agg (al.enc (eB (b.getD 0 default).toNat b ⟨addr,0,0,0,0,0,0,0,sz⟩)).toArray):=by
 have hV':Sl (Bg.of w).blk cd b V:=hV
 have hlen:=hV.len_le
 have hsp:=wF (c:=((b.getD 0 default).toNat:Nat))
 have hsz:=AY hz
 have hc0:=(b.getD 0 default).toNat_lt
 generalize hcc:(((b.getD 0 default).toNat:Nat):Int)=c at *
 refine En f280 rfl rfl (zR2 ?_)
 refine bJ rfl rfl (fun b1=>?_)
 refine bH aF rfl (fun b2=>zR7 ?_)
 refine zz0 (dh rfl ao ad) ?_
 rw [show Int.toNat 0=0 from rfl,hcc]
 refine zR3 ?_
 refine dZ (.of (ι:=Ins) (fun k=>k=eB c b ⟨addr,0,0,0,0,0,0,0,sz⟩) (fun _=>Bg.of w) (fun k=>[cellE b1 (al.enc k) 36,cellE b2 (al.enc bh) 36]) (fun k=>[])) ?_ (fun k hi=>?_)
 ·skip
  refine zR6 ?_
  refine dT 3 17 20 (h2:=zR3 ?_)
  refine ab rfl ?_ ?_<;>intro h4
  ·refine bC ([cellE b2 (al.enc bh) 36]) 21 rfl ah ?_
   refine zK [0,1,2,3,4,5] ?_
   refine jx 6 rfl (by kernel_rfl) (eF (aY cX)) (Dz (n:=16) rfl rfl (by first|decide|assumption)) ?_
   refine zz4 7 rfl (dh rfl ao ad) ?_
   refine zK [8,9,10] ?_
   refine jx 11 rfl (by kernel_rfl) (eF (aY cX)) (Dy (n:=16) rfl rfl (by first|decide|assumption)) ?_
   refine zz4 12 rfl (dh rfl ao ad) ?_
   refine zz4 13 rfl (bE rfl) ?_
   refine au 14 rfl ?_
   refine zz1 (cs':=[_,_,_,_,_,_,_,_,_]) rfl rfl aH rfl ?_
   refine aC ?_
   refine zz4 15 rfl (bE rfl) ?_
   refine au 16 rfl ?_
   refine zz1 (cs':=[_,_,_,_,_,_,_,_,_]) rfl rfl aH rfl ?_
   refine aC ?_
   refine zz4 17 rfl (bE rfl) ?_
   refine au 18 rfl ?_
   refine zz1 (cs':=[_,_,_,_,_,_,_,_,_]) rfl rfl aH rfl ?_
   refine aC ?_
   refine zz4 19 rfl (bE rfl) ?_
   refine au 20 rfl ?_
   refine zz1 (cs':=[_,_,_,_,_,_,_,_,_]) rfl rfl aH rfl ?_
   refine aC ?_
   refine fg (zR2 ?_)
   apply bO ⟨addr,0,5+c - 32,0,0,0,((b.getD 1 default) / 16).toNat,((b.getD 1 default) % 16).toNat,sz⟩
   ·exact rfl
   ·exact Front.nil
   ·exact zz9 22 rfl
   ·exact (by repeat' constructor)
   exact (by unfold eB kJ; exact zG)
  refine zR5 ?_
  refine dT 3 41 44 (h2:=zR3 ?_)
  refine ab rfl ?_ ?_<;>intro h6
  ·refine bC ([cellE b2 (al.enc bh) 36]) 19 rfl ah ?_
   refine zK [0,1,2,3,4,5] ?_
   refine zz4 6 rfl (dh rfl ao ad) ?_
   refine zK [7,8,9,11] ?_
   refine au 10 rfl ?_
   refine zz0 (ak rfl (qC (b.getD 2 default))) ?_
   refine aC ?_
   refine au 12 rfl ?_
   refine zz1 (cs':=[_,_,_,_,_,_,_,_,_]) rfl rfl aH rfl ?_
   refine aC ?_
   refine zz4 13 rfl (bE rfl) ?_
   refine au 14 rfl ?_
   refine zz1 (cs':=[_,_,_,_,_,_,_,_,_]) rfl rfl aH rfl ?_
   refine aC ?_
   refine zz4 15 rfl (bE rfl) ?_
   refine au 16 rfl ?_
   refine zz1 (cs':=[_,_,_,_,_,_,_,_,_]) rfl rfl aH rfl ?_
   refine aC ?_
   refine zz4 17 rfl (bE rfl) ?_
   refine au 18 rfl ?_
   refine zz1 (cs':=[_,_,_,_,_,_,_,_,_]) rfl rfl ar rfl ?_
   refine aC ?_
   refine fg (zR2 ?_)
   apply bO ⟨addr,nR (b.getD 2 default),5+c - 48,1,0,0,(b.getD 1 default).toNat,0,sz⟩
   ·exact rfl
   ·exact Front.nil
   ·exact zz9 25 rfl
   ·exact (by repeat' constructor)
   exact (by unfold eB kJ; exact zG)
  refine zR5 ?_
  refine dT 3 63 66 (h2:=zR3 ?_)
  refine ab rfl ?_ ?_<;>intro h8
  ·refine bC ([cellE b2 (al.enc bh) 36]) 18 rfl ah ?_
   refine zK [0,1,2,3,4,5] ?_
   refine zz4 6 rfl (dh rfl ao ad) ?_
   refine zz4 7 rfl (af rfl) ?_
   refine zz4 8 rfl (rr (lv:=some (_,_)) (hv:=none) rfl rfl rfl an bA) ?_
   refine zz4 10 rfl (bE rfl) ?_
   refine au 9 rfl ?_
   refine zz0 (aK rfl (fun w hw=>oG ((b.take (b.length:Int).toNat).drop (2:Int).toNat) _ w (hw.slF (Sl.resl hV' (by omega) (by omega))) (by simp; omega))) ?_
   refine aC ?_
   refine au 11 rfl ?_
   refine zz1 (cs':=[_,_,_,_,_,_,_,_,_]) rfl rfl aH rfl ?_
   refine aC ?_
   refine zz4 12 rfl (bE rfl) ?_
   refine au 13 rfl ?_
   refine zz1 (cs':=[_,_,_,_,_,_,_,_,_]) rfl rfl aH rfl ?_
   refine aC ?_
   refine zz4 14 rfl (bE rfl) ?_
   refine au 15 rfl ?_
   refine zz1 (cs':=[_,_,_,_,_,_,_,_,_]) rfl rfl aH rfl ?_
   refine aC ?_
   refine zz4 16 rfl (bE rfl) ?_
   refine au 17 rfl ?_
   refine zz1 (cs':=[_,_,_,_,_,_,_,_,_]) rfl rfl ar rfl ?_
   refine aC ?_
   refine fg (zR2 ?_)
   rw [show iO ((b.take (b.length:Int).toNat).drop (2:Int).toNat) 0=iO b 2 from sF (k:=2) (by omega)]
   apply bO ⟨addr,iO b 2,5+c - 64,2,0,0,(b.getD 1 default).toNat,0,sz⟩
   ·exact rfl
   ·exact Front.nil
   ·exact zz9 29 rfl
   ·exact (by repeat' constructor)
   exact (by unfold eB kJ; exact zG)
  refine zR5 ?_
  refine zz0 (aK rfl (fun w hw=>CL c b V addr sz w (hw.slF hV) hb (by omega) hz (by omega))) (zR6 ?_)
  exact aL (e:=rfl)
 skip
 refine zR7 ?_
 exact aL (e:=by rw [hi]; rfl)
theorem mz (b:List UInt8) (V:Value) (addr:UInt32) (w:World) (hV:Sl (hp w) cd b V) :
  Cr prog 235 #[V,.int .u32 addr.toNat] w (.tuple #[.agg (al.enc (np b addr).1).toArray,.int .i64 (np b addr).2]):=by
 have hV':Sl (Bg.of w).blk cd b V:=hV
 have hlen:=hV.len_le
 have hpos:=Ai (((b.getD 0 default).toNat:Nat):Int)
 refine En f235 rfl rfl (zR2 ?_)
 refine bH aF rfl (fun b1=>cj ?_)
 refine ab rfl ?_ ?_<;>intro h2
 ·refine dx (zz0 (aI (vs:=[]) rfl rfl (gm)) (zR6 ?_))
  exact fL (e:=by unfold np; rw [if_pos (by omega)]; rfl)
 refine zR7 ?_
 refine zz0 (dh rfl ao ad) (zz0 (ak rfl (JE (b.getD 0 default).toNat)) ?_)
 generalize hq:eQ (b.getD 0 default).toNat=n at *
 refine bR ?_
 refine ab rfl ?_ ?_<;>intro h3
 ·refine dx (zz0 (aI (vs:=[]) rfl rfl (gm)) (zR6 ?_))
  exact fL (e:=by unfold np; rw [if_neg (by omega),if_pos (by rw [hq]; assumption)]; rfl)
 refine cj ?_
 refine ab rfl ?_ ?_<;>intro h4
 ·refine dx (zz0 (aI (vs:=[]) rfl rfl (gm)) (zR6 ?_))
  exact fL (e:=by unfold np; rw [if_neg (by omega),if_neg (by rw [hq]; assumption),if_pos (by rw [hq]; assumption)]; rfl)
 refine zR6 ?_
 refine zz0 (rr (lv:=none) (hv:=some (_,_)) rfl rfl rfl an bA) (zR2 ?_)
 refine zz0 (aI (vs:=[(0,_),(8,_)]) rfl rfl (xA _ _)) ?_
 refine zz0 (aK rfl (fun w hw=>HE ((b.take n.toNat).drop 0) _ addr n w (hw.slF (Sl.resl hV' (by omega) (by omega))) (by rw [List.drop_zero]; exact Jy (by omega) (by omega) (pN (by omega)) hq) (by rw [List.drop_zero,pN (by omega),hq]; assumption))) ?_
 refine bH aF rfl (fun b5=>zR8 ?_)
 refine zz0 (ak rfl (sJ _)) (zR2 ?_)
 apply gJ 5 36 41 (fun hF6 hF6'=>?_) ?_; rotate_right
 ·refine zR2 ?_
  refine zz5 hF6 (ak rfl (sJ _)) ?_
  exact zE
 refine zR2 ?_
 refine ab rfl ?_ ?_<;>intro h7
 ·refine dx (zz0 (aI (vs:=[]) rfl rfl (gm)) (zR6 ?_))
  exact fL (e:=by unfold np; rw [if_neg (by omega),if_neg (by rw [hq]; assumption),if_neg (by rw [hq]; assumption),hq]; simp only [List.drop_zero,pN (show 0<n.toNat by omega)] at *; (first|rw [if_pos (by assumption)]|rw [if_neg (by grind)]); rfl)
 refine bR ?_
 exact fL (e:=by unfold np; rw [if_neg (by omega),if_neg (by rw [hq]; assumption),if_neg (by rw [hq]; assumption),hq]; simp only [List.drop_zero,pN (show 0<n.toNat by omega)] at *; (first|rw [if_pos (by assumption)]|rw [if_neg (by grind)]); rfl)
theorem nI (li:List Ins) (V:Value) (a:UInt32) (w:World) (hI:Sl (hp w) al li V):Calls prog 183 #[V,.int .u32 a.toNat] w (fun e w'=>e=.returned (.int .i64 (bD li a))∧Ext w w'):=MV li V a w hI
theorem BF (l:List Ins) (V:Value) (k:Nat) (w:World) (hI:Sl (hp w) al l V) (hIO:∀ x∈l,InsOK x) (hk:k<l.length) :
  Calls prog 186 #[V,.int .i64 (k:Nat)] w (fun e w'=>∃ V',e=.returned V'∧Ext w w'∧dY w w' 23 aa (jn l k) V'):=by
 have hI':Sl (Bg.of w).blk al l V:=hI
 have hlen:=hI.len_le
 have hIK:=hIO _ (ba hk)
 have hsl:=ir (l.getD k default)
 refine En f186 rfl rfl (ug ?_)
 refine bH aF rfl (fun b1=>zR7 ?_)
 refine zz0 (aK rfl (fun w hw=>by have q:=jm (l.getD k default) w; rw [qT] at q; exact q)) (zR2 ?_)
 apply gJ 7 16 23 (fun hF2 hF2'=>?_) ?_; rotate_right
 ·refine zR3 ?_
  refine zz5 hF2 (aK rfl (fun w hw=>nI l V (l.getD k default).addr w (hw.slF hI'))) ?_
  exact zE
 refine zR2 ?_
 refine ab rfl ?_ ?_<;>intro h3
 ·have hq:=h3
  refine zR7 ?_
  refine aM results186 rfl (fun w' hw=>?_)
  have e:jn l k=[]:=by
   rcases hq with q|q
   ·exact LQ (by simp_all)
   ·exact if_neg q
  exact ⟨_,rfl,hw.b0,by rw [e]; exact cH rfl⟩
 have hq:=h3
 have he:eN (l.getD k default)=0:=by simp_all
 have hf:bD l (l.getD k default).addr=(k:Int):=by simp_all
 refine zR2 ?_
 refine dZ (.of (ι:=Value) (fun V2=>True) (fun _=>Bg.of w) (fun V2=>[rowE V2 23 aa (if (l.getD k default).op=20∨(l.getD k default).op=23 then [(l.getD k default).imm] else []),cellE b1 (al.enc (l.getD k default)) 36]) (fun V2=>[(5,V2)])) ?_ (fun V2 hi=>?_)
 ·skip
  refine bB (ay 23 aa (zR5 ?_))
  refine cZ 4 27 31 (h2:=zR2 ?_)
  refine ab rfl ?_ ?_<;>intro h5
  ·refine zR4 ?_
   refine fM (E:=aa) (l.getD k default).imm rfl rfl am ar bj (fun V6=>?_)
   refine zz3 rfl rfl am cp (fun V7=>?_)
   refine zR3 ?_
   refine dQ (l':=(if (l.getD k default).op=20∨(l.getD k default).op=23 then [(l.getD k default).imm] else [])) (by rw [if_pos (by assumption)]; rfl) ?_
   refine aT _ (o:=trivial)
  refine j8 (dQ (l':=(if (l.getD k default).op=20∨(l.getD k default).op=23 then [(l.getD k default).imm] else [])) (by rw [if_neg (by simp_all)]) ?_)
  refine aT _ (o:=trivial)
 skip
 have ha1:(if (l.getD k default).op=20∨(l.getD k default).op=23 then [(l.getD k default).imm] else []).length≤1:=by split<;>simp
 refine dZ (.of (ι:=Value) (fun V3=>True) (fun _=>Bg.of w) (fun V3=>[rowE V3 23 aa (bW (l.getD k default)),cellE b1 (al.enc (l.getD k default)) 36]) (fun V3=>[(5,V3)])) ?_ (fun V3 hi=>?_)
 ·skip
  refine zR3 ?_
  refine zz0 (ak rfl (wJ (l.getD k default))) (zR3 ?_)
  refine ab rfl ?_ ?_<;>intro h8
  ·have hq8:jf (l.getD k default)=false:=h8
   refine zR3 ?_
   refine zz0 (aK rfl (fun w hw=>(show Calls prog 243 #[.agg (al.enc (l.getD k default)).toArray] w (fun e w'=>e=.returned (.int .u32 (jT (l.getD k default)).toNat)∧Ext w w') from by rw [show jT (l.getD k default)=(l.getD k default).addr+u32 (oH (l.getD k default)) by rw [CP]; rfl]; exact wI (l.getD k default) w hIK))) ?_
   refine fM (E:=aa) (jT (l.getD k default)) rfl rfl am ar bj (fun V9=>?_)
   refine zz3 rfl rfl am cp (fun V10=>?_)
   refine zR3 ?_
   refine dQ (l':=bW (l.getD k default)) (by rw [← Eb he,show (if jf (l.getD k default)=true then [] else [jT (l.getD k default)])=[jT (l.getD k default)] from if_neg (by rw [hq8]; simp)]) ?_
   refine aT _ (o:=trivial)
  have hq8:jf (l.getD k default)=true:=by simpa using h8
  refine j8 (dQ (l':=bW (l.getD k default)) (by rw [← Eb he,show (if jf (l.getD k default)=true then [] else [jT (l.getD k default)])=[] from if_pos hq8,List.append_nil]) ?_)
  refine aT _ (o:=trivial)
 skip
 refine zR7 ?_
 refine ay 23 aa ?_
 refine cT (ι:=Nat × Value) (fun ⟨n,Vo⟩=>n≤(bW (l.getD k default)).length) (fun _=>_) (fun ⟨n,Vo⟩=>[rowE Vo 23 aa (((bW (l.getD k default)).take n).filter (fun a=>decide (0≤bD l a))),rowE V3 23 aa (bW (l.getD k default)),cellE b1 (al.enc (l.getD k default)) 36]) (fun ⟨n,Vo⟩=>[(8,.int .i64 (n:Nat)),(6,Vo)]) (fun ⟨n,Vo⟩=>(bW (l.getD k default)).length - n) (0,_) (Nat.zero_le _) (Front.c (Front.c Front.nil)) (fun i hi m hm=>?_)
 obtain ⟨n,Vo⟩:=i
 dsimp only at hi hm
 conv=>enter [3]; dsimp only
 conv=>enter [4,1]; dsimp only
 have hfl:=List.length_filter_le (fun a=>decide (0≤bD l a)) ((bW (l.getD k default)).take n)
 rw [List.length_take] at hfl
 refine zR9 ?_
 refine ab rfl ?_ ?_<;>intro h11
 ·refine cj ?_
  refine zz0 (aK rfl (fun w hw=>nI l V ((bW (l.getD k default)).getD n default) w (hw.slF hI'))) (zR3 ?_)
  refine ab rfl ?_ ?_<;>intro h12
  ·have hq5:=h12
   refine zR6 ?_
   refine fM (E:=aa) ((bW (l.getD k default)).getD n default) rfl rfl am ar bj (fun V13=>?_)
   refine zz3 rfl rfl am cp (fun V14=>?_)
   refine bR ?_
   rw [← tM (p:=(fun a=>decide (0≤bD l a))) (by omega) (decide_eq_true hq5)]
   refine aP (n+1,_) (o:=(by show n+1≤_; omega))
  have hq5':¬ 0≤bD l ((bW (l.getD k default)).getD n default):=fun q=>by have:=h12; omega
  refine zR9 ?_
  rw [← vY (p:=(fun a=>decide (0≤bD l a))) (by omega) (fun q=>hq5' (of_decide_eq_true q))]
  refine aP (n+1,_) (o:=(by show n+1≤_; omega))
 refine df ?_
 refine aM results186 rfl (fun w' hw=>?_)
 have e:((bW (l.getD k default)).take n).filter (fun a=>decide (0≤bD l a))=jn l k:=by rw [List.take_of_length_le (by omega)]; exact (if_pos hf).symm
 rw [e] at hw
 exact ⟨_,rfl,hw.b0,hw.new (.head _)⟩
theorem Ks (l:List Ins) (V:Value) (k:Nat) (entry:UInt32) (w:World) (hI:Sl (hp w) al l V) (hIO:∀ x∈l,InsOK x) (hk:k<l.length) (hll:l.length≤4096) :
  Cr prog 244 #[V,.int .i64 (k:Nat),.int .u32 entry.toNat] w (.agg (al.enc (rW l k entry)).toArray):=by
 have hI':Sl (Bg.of w).blk al l V:=hI
 have hlen:=hI.len_le
 refine En f244 rfl rfl (zR2 ?_)
 refine bH aF rfl (fun b1=>zR4 ?_)
 refine bH aF rfl (fun b2=>jk ?_)
 refine cP (.of (ι:=Nat) (fun j=>j≤l.length) (fun _=>_) (fun j=>[cellE b2 (al.enc (wP l (lJ l (l.getD k default).addr j))) 36,cellE b1 (al.enc bh) 36]) (fun j=>[(9,.int .i64 (j:Nat)),(8,.int .i64 ((lJ l (l.getD k default).addr j).length:Nat))]) (fun j=>l.length - j)) 0 (Nat.zero_le _) (.cons (by first|rfl|exact az rfl (by omega)|exact az rfl (by rw [hyx]; simp)|exact az rfl (by simp [lJ])|exact az rfl (by simp)|exact bU rfl (by simp)) (.cons (by first|rfl|exact az rfl (by omega)|exact az rfl (by rw [hyx]; simp)|exact az rfl (by simp [lJ])|exact az rfl (by simp)|exact bU rfl (by simp)) Front.nil)) (fun j hi m hm=>?_)
 have hrl:=yW l (l.getD k default).addr j
 refine zR9 ?_
 refine ab rfl ?_ ?_<;>intro h3
 ·refine zR8 ?_
  refine cE rfl call186 (fun w hw=>BF l V j w (hw.slF hI') hIO (by omega)) rfl (fun V4=>zR9 ?_)
  rw [← Kf l (l.getD k default).addr j]
  refine cP (.of (ι:=Nat) (fun x=>x≤(jn l j).length) (fun _=>_) (fun x=>[rowE V4 23 aa (jn l j),cellE b2 (al.enc (wP l (tI l (l.getD k default).addr j x))) 36,cellE b1 (al.enc bh) 36]) (fun x=>[(11,.int .i64 (x:Nat)),(8,.int .i64 ((tI l (l.getD k default).addr j x).length:Nat))]) (fun x=>(jn l j).length - x)) 0 (Nat.zero_le _) (.cons (by first|rfl|exact az rfl (by omega)|exact az rfl (by rw [hyx]; simp)|exact az rfl (by simp [lJ])|exact az rfl (by simp)|exact bU rfl (by simp)) (.cons (by first|rfl|exact az rfl (by omega)|exact az rfl (by rw [hyx]; simp)|exact az rfl (by simp [lJ])|exact az rfl (by simp)|exact bU rfl (by simp)) Front.nil)) (fun x hi m hm=>?_)
  have hxl:=MA l (l.getD k default).addr j x
  have hrE:=uz l j
  refine zR9 ?_
  refine ab rfl ?_ ?_<;>intro h5
  ·refine zR5 ?_
   refine eU ah (zT8 ?_)
   refine aw (jO rfl co) (zT3 ?_)
   refine ab rfl ?_ ?_<;>intro h6
   ·have hq3:=h6
    refine QH ?_
    have hyx:=Mz (a:=(l.getD k default).addr) (by omega) hq3
    rw [← Ht l (tI l (l.getD k default).addr j x) j,← hyx]
    refine Jf (x+1) (.cons (by first|rfl|exact az rfl (by omega)|exact az rfl (by rw [hyx]; simp)|exact az rfl (by simp [lJ])|exact az rfl (by simp)|exact bU rfl (by simp)) (.cons (by first|rfl|exact az rfl (by omega)|exact az rfl (by rw [hyx]; simp)|exact az rfl (by simp [lJ])|exact az rfl (by simp)|exact bU rfl (by simp)) Front.nil)) (zz9 26 rfl) (o:=(by show x+1≤_; omega))
   have hq3:=h6
   refine zR9 ?_
   rw [← OF (by omega) hq3]
   refine Jf (x+1) (.cons (by first|rfl|exact az rfl (by omega)|exact az rfl (by rw [hyx]; simp)|exact az rfl (by simp [lJ])|exact az rfl (by simp)|exact bU rfl (by simp)) (.cons (by first|rfl|exact az rfl (by omega)|exact az rfl (by rw [hyx]; simp)|exact az rfl (by simp [lJ])|exact az rfl (by simp)|exact bU rfl (by simp)) Front.nil)) (zz9 19 rfl) (o:=(by show x+1≤_; omega))
  refine df ?_
  rw [MB (by omega)]
  refine Jf (j+1) (.cons (by first|rfl|exact az rfl (by omega)|exact az rfl (by rw [hyx]; simp)|exact az rfl (by simp [lJ])|exact az rfl (by simp)|exact bU rfl (by simp)) (.cons (by first|rfl|exact az rfl (by omega)|exact az rfl (by rw [hyx]; simp)|exact az rfl (by simp [lJ])|exact az rfl (by simp)|exact bU rfl (by simp)) Front.nil)) (zz9 20 rfl) (o:=(by show j+1≤_; omega))
 refine zR7 ?_
 obtain rfl:j=l.length:=by omega
 refine zR4 ?_
 apply gJ 8 45 53 (fun hF7 hF7'=>?_) ?_; rotate_right
 ·refine zR4 ?_
  refine zz5 hF7 (jO rfl co) (zz5 hF7 (af rfl) ?_)
  refine zz5 hF7 (dq rfl rfl) ?_
  exact zE
 refine zR2 ?_
 refine ab rfl ?_ ?_<;>intro h8
 ·have hq4:=h8
  refine dx (zz0 (aI (vs:=[]) rfl rfl (gm)) (zR5 ?_))
  exact aL (e:=by rw [vU (hq4.imp (fun q=>by omega) id)]; rfl)
 have hq4:=h8
 refine zR9 ?_
 exact aL (e:=by rw [zf (fun q=>by omega) hq4.2]; rfl)
theorem BS (l:List Ins) (V:Value) (k:Nat) (entry:UInt32) (s:StV) (n:Nat) (w:World) (hI:Sl (hp w) al l V) (hIO:∀ x∈l,InsOK x) (hk:k<l.length) (hll:l.length≤4096) :
  Cr prog 187 #[V,.int .i64 (k:Nat),.int .u32 entry.toNat,.agg (bY.enc s).toArray,.int .i64 (n:Nat)] w (.agg (bY.enc (wm l k entry s (n:Int))).toArray):=by
 have hI':Sl (Bg.of w).blk al l V:=hI
 have hlen:=hI.len_le
 have hIK:=hIO _ (ba hk)
 have hGO:=Kt hIO k entry
 obtain ⟨g,hg⟩:∃ g,g=rW l k entry:=⟨_,rfl⟩
 rw [← hg] at hGO
 refine En f187 rfl rfl (zR2 ?_)
 refine bJ rfl rfl (fun b1=>?_)
 refine bH cN rfl (fun b2=>zR8 ?_)
 refine bH aF rfl (fun b3=>bR ?_)
 refine cZ 4 20 24 (h2:=zR2 ?_)
 refine ab rfl ?_ ?_<;>intro h5
 ·have hq1:=h5
  refine dx (zz0 (ak rfl gp) ?_)
  refine zz0 (ak rfl tW) (zR5 ?_)
  exact aL (e:=by unfold wm; rw [if_pos hq1]; rfl)
 have hq1:=h5
 refine zR7 ?_
 refine zz0 (aK rfl (fun w hw=>(by rw [hg]; exact Ks l V k entry w (hw.slF hI') hIO hk hll:Calls prog 244 #[V,.int .i64 (k:Nat),.int .u32 entry.toNat] w (fun e w'=>e=.returned (.agg (al.enc g).toArray)∧Ext w w')))) ?_
 refine bH aF rfl (fun b6=>bR ?_)
 apply dV 3 34 37 (fun hT7 hT7'=>?_) ?_; rotate_right
 ·refine zz5 hT7 (cF rfl) (zz5 hT7 (aK rfl (fun w hw=>Bp g w hGO)) ?_)
  exact zE
 refine zR2 ?_
 refine ab rfl ?_ ?_<;>intro h8
 ·have hq2:=h8
  refine bB (dO 0 14 ah ?_)
  refine ax (zT5 ?_)
  refine aw (kG rfl rfl) (aw (af rfl) ?_)
  apply fD 6 44 50 (fun hT9 hT9'=>?_) ?_; rotate_right
  ·refine zT3 ?_
   refine db hT9 (aK rfl (fun w hw=>nI l V (l.getD k default).imm w (hw.slF hI'))) ?_
   refine db hT9 (wx rfl rfl) ?_
   exact zQ
  refine aw (aK rfl (fun w hw=>Hb (l.getD k default).cc g s _ w hGO (fun q=>(ly (I4 q)).2.1))) (zT6 ?_)
  exact aL (e:=by unfold wm; rw [if_neg (by omega),← hg,if_pos hq2]; rfl)
 have hq2:=h8
 refine zR6 ?_
 refine zz0 (aK rfl (fun w hw=>Ce (l.getD k default) s w hIK)) (zR4 ?_)
 exact aL (e:=by unfold wm; rw [if_neg (by omega),← hg,if_neg (by rintro ⟨q1,q2⟩; simp_all)]; rfl)
theorem yV (mb:List Bool) (V:Value) (w:World) (hV:Sl (hp w) bK mb V) :
  Cr prog 185 #[V] w (.int .i64 (jZ mb)):=by
 have hV':Sl (Bg.of w).blk bK mb V:=hV
 have hlen:=hV.len_le
 refine En f185 rfl rfl (df ?_)
 refine cP (.of (ι:=Nat) (fun k=>k≤mb.length∧dA (fun x:Bool=>decide (true=x)) k (mb.drop k)=jZ mb) (fun _=>_) (fun k=>[]) (fun k=>[(3,.int .i64 (k:Nat))]) (fun k=>mb.length - k)) 0 ⟨Nat.zero_le _,rfl⟩ (Front.c Front.nil) (fun k hi m hm=>?_)
 obtain ⟨hk1,hk2⟩:=hi
 refine zR9 ?_
 refine ab rfl ?_ ?_<;>intro h1
 ·refine df ?_
  refine ab rfl ?_ ?_<;>intro h2
  ·refine df ?_
   refine aM results185 rfl (fun w' hw=>?_)
   have hix:jZ mb=(k:Int):=by
    rw [← hk2,drop_cons (k:=k) (by omega),dA,if_pos (by simp_all)]
   exact ⟨by rw [hix],hw.b0⟩
  refine zR9 ?_
  refine aP (k+1) (o:=⟨by omega,by rw [← hk2,drop_cons (k:=k) (by omega),dA,if_neg (by simp_all)]⟩)
 refine cj ?_
 refine aM results185 rfl (fun w' hw=>?_)
 have hix:jZ mb=-1:=by rw [← hk2,List.drop_of_length_le (by omega)]; rfl
 exact ⟨by rw [hix],hw.b0⟩
theorem HW (l:List Ins) (V:Value) (st:List StV) (VS:Value) (a:UInt32) (w:World) (hI:Sl (hp w) al l V) (hS:Sl (hp w) bY st VS) :
  Cr prog 133 #[V,VS,.int .u32 a.toNat] w (.tuple #[.agg (bY.enc (eR l st a).1).toArray,.bool (eR l st a).2]):=by
 have hI':Sl (Bg.of w).blk al l V:=hI
 have hlen:=hI.len_le
 have hS':Sl (Bg.of w).blk bY st VS:=hS
 have hlS:=hS.len_le
 refine En f133 rfl rfl (zR2 ?_)
 refine bH cN rfl (fun b1=>zR7 ?_)
 refine zz0 (aK rfl (fun w hw=>nI l V a w (hw.slF hI'))) (zR9 ?_)
 refine cZ 5 14 19 (h2:=zR2 ?_)
 refine ab rfl ?_ ?_<;>intro h3
 ·have hq:=h3
  refine dx (zz0 (aI (vs:=[]) rfl rfl (GN)) (zR6 ?_))
  refine vn results133 rfl rfl isAgg28 g7 (fun w' hw=>?_)
  have e:eR l st a=(gx,false):=if_pos hq
  exact ⟨by rw [e]; rfl,hw.b0⟩
 have hq:=h3
 refine gB ?_
 refine vn results133 rfl rfl isAgg28 g7 (fun w' hw=>?_)
 have e:eR l st a=(st.getD (bD l a).toNat default,true):=if_neg (show ¬ (bD l a<0∨(st.length:Int)≤bD l a) by omega)
 exact ⟨by rw [e]; rfl,hw.b0⟩
end Go.Proofs.YtiajjbhcpeadfaaGreat
