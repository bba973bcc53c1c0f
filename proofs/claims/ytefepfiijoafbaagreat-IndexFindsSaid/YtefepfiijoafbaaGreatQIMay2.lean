/- IMay IVa IVb IVc IVals IMay2 -/
import Derived.Test.YtefepfiijoafbaaGreatQWhere
import Derived.Test.YtefepfiijoafbaaGreatQBS
set_option linter.unusedVariables false
set_option linter.unusedSimpArgs false
set_option maxRecDepth 100000
set_option maxHeartbeats 4000000
namespace Go.Proofs.YtefepfiijoafbaaGreat
open Go.RowKit Go.Shelf Go.Maps Go.Sort
attribute [local go_sem] Oper.semAt_some
attribute [local irreducible] wpQuiet
def allV(k:Int)(l:List Val):Bool:=!(l.any fun x=>!(x.k == k) || !valMay x)
theorem enters_all1:∀ args w,(callFunc 214 args).run Tryz.prog w = .ok (.enter 214 args) w:=enters_of Tryz.func214 (by kernel_rfl) rfl
theorem all1_any(W:World)(bk:Nat)(k:Int)(x:Val)(hx:0≤x.u)(hb:W.heap[bk]?=some (.cells #[.int .u8 k] 30 (0,0))) :
  Calls Tryz.prog 214 #[.agg x.enc.toArray,.pointer (some ⟨bk,0,none⟩)] W fun e w'=>e = .returned (.bool (!(x.k == k) || !valMay x))∧Fr N0 W w':=by
 have hm:=fun w=>vMay_any x hx w
 have c0:=cell_of_one hb
 have c0':=fun o=>((Fr.refl N0 W).alloc o).cell id c0
 obtain⟨M,hM⟩:∃ M,valMay x=M:=⟨_,rfl⟩
 simp only [hM] at hm ⊢
 have HM:=hhd hm
 clear hm hM hb hx c0
 obtain⟨vk,vb,vn,vs,vu⟩:=x
 simp only [Val.enc] at HM ⊢
 by_cases hk:vk=k
 ·subst hk
  cases M
  all_goals
   go_enter Tryz.func214,Tryz.ntmps214
   go_wp2_with (go_at_call 183;refine(HM.out _).mono ?_;rintro e w1 ⟨rfl,hf1⟩)
   go_ret
   exact⟨by simp,((Fr.refl _ _).alloc _).then0 hf1⟩
 ·have hk1:(vk != k)=true:=by simpa using hk
  have hk2:(vk == k)=false:=by simpa using hk
  go_enter Tryz.func214,Tryz.ntmps214
  go_wp2
  go_ret
  exact⟨by simp [hk2],(Fr.refl _ _).alloc _⟩
theorem iall_any(w:World)(b:Nat)(v:Value)(l:List Val)(h:RowsK Val.enc 5 w b v l)(hu:∀ x ∈ l,0≤x.u)(hl:l.length≤9223372036854775807)(k:Int) :
  Calls Tryz.prog 156 #[v,.int .u8 k] w fun e w'=>e = .returned (.bool (allV k l))∧Fr N0 w w':=by
 have hc:=fun w' (hf:Fr N0 (w.alloc (.cells #[.int .u8 k] 30)) w')=>contFV_any w' b v l (rowsK_frT (enc:=Val.enc) (n:=5) val_len h (((Fr.refl N0 w).alloc _).then0 hf) fun _=>id) hl 214 #[.pointer (some ⟨w.heap.size,0,none⟩)] (fun x=>!(x.k == k) || !valMay x)
  (fun x hx W hW=>all1_any W w.heap.size k x (hu x hx) (((hf.then0 hW).at id (by simp)).trans (World.alloc_heap_new w _))) enters_all1
 have HC:=hhd (hc _ (Fr.refl _ _))
 obtain⟨A,hA⟩:∃ A,(l.any fun x=>!(x.k == k) || !valMay x)=A:=⟨_,rfl⟩
 unfold allV
 rw[hA]
 simp only [hA] at HC
 clear hc h hu hA
 cases A
 all_goals
  go_enter Tryz.func156,Tryz.ntmps156
  go_wp2_with (go_at_call 213;refine HC.out.mono ?_;rintro e w1 ⟨rfl,hf1⟩)
  go_ret
  exact⟨rfl,((Fr.refl _ _).alloc _).then0 hf1⟩
def valsR(kd:Int)(n:Nat)(A:Int→Bool):Bool:=
 if kd=2 then decide (n=0)
 else if kd=3 then decide (0 < n∧n≤64) &&(A 1 || A 2 || A 3)
 else if kd=4∨kd=5 then decide (n=1) && A 3
 else if kd=6∨kd=7∨kd=8∨kd=9∨kd=11 then decide (n=1) && A 2
 else if kd=10 then decide (n=2) && A 2
 else false
def valsOk(kd:Int)(l:List Val):Bool:=valsR kd l.length fun k=>allV k l
theorem iall_hid{w:World}{a:Option Addr}{n cap:Nat}{l:List Val}{b:Nat}(h:RowsK Val.enc 5 w b (.slice a n cap) l)(hu:∀ x ∈ l,0≤x.u)(hl:l.length≤9223372036854775807) :
  Hid (∀ w' k,Fr N0 w w'→Calls Tryz.prog 156 #[.slice a n cap,.int .u8 k] w' fun e w2=>e = .returned (.bool (allV k l))∧Fr N0 w w2):=
 hhd fun w' k hf=>(iall_any w' b _ l (rowsK_frT (enc:=Val.enc) (n:=5) val_len h hf fun _=>id) hu hl k).mono fun e w2 hh=>⟨hh.1,hf.then0 hh.2⟩
theorem ivals_2(w:World)(a:Option Addr)(n cap:Nat)(A:Int→Bool)(H:Hid (∀ w' k,Fr N0 w w'→Calls Tryz.prog 156 #[.slice a n cap,.int .u8 k] w' fun e w2=>e = .returned (.bool (A k))∧Fr N0 w w2)) :
  Calls Tryz.prog 106 #[.int .u8 2,.slice a n cap] w fun e w'=>e = .returned (.bool (valsR 2 n A))∧Fr N0 w w':=by
 clear H
 by_cases c:n=0
 ·subst c
  go_enter Tryz.func106,Tryz.ntmps106
  go_wp2
  go_ret
  exact⟨by simp [valsR, *],by first | assumption | exact Fr.refl _ _⟩
 ·have c1:((n:Int) == 0)=false:=by rw[beq_eq_false_iff_ne];omega
  go_enter Tryz.func106,Tryz.ntmps106
  go_wp2
  go_ret
  exact⟨by simp [valsR, *],by first | assumption | exact Fr.refl _ _⟩
theorem ivals_3(w:World)(a:Option Addr)(n cap:Nat)(A:Int→Bool)(H:Hid (∀ w' k,Fr N0 w w'→Calls Tryz.prog 156 #[.slice a n cap,.int .u8 k] w' fun e w2=>e = .returned (.bool (A k))∧Fr N0 w w2)) :
  Calls Tryz.prog 106 #[.int .u8 3,.slice a n cap] w fun e w'=>e = .returned (.bool (valsR 3 n A))∧Fr N0 w w':=by
 obtain⟨A1,h1⟩:∃ x,A 1=x:=⟨_,rfl⟩
 have H1:=hhd fun w' hf=>H.out w' 1 hf
 simp only [h1] at H1
 obtain⟨A2,h2⟩:∃ x,A 2=x:=⟨_,rfl⟩
 have H2:=hhd fun w' hf=>H.out w' 2 hf
 simp only [h2] at H2
 obtain⟨A3,h3⟩:∃ x,A 3=x:=⟨_,rfl⟩
 have H3:=hhd fun w' hf=>H.out w' 3 hf
 simp only [h3] at H3
 clear H
 by_cases c:0 < n
 ·have c0:(0:Int) < (n:Int):=by omega
  by_cases d:n≤64
  ·have d0:(n:Int)≤64:=by omega
   cases A1
   ·cases A2
    ·cases A3
     all_goals
      go_enter Tryz.func106,Tryz.ntmps106
      go_wp2_with (first | (go_at_call 156;refine(H1.out _ (by first | exact Fr.refl _ _ | assumption)).mono ?_;rintro e w1 ⟨rfl,hf1⟩) | (go_at_call 156;refine(H2.out _ (by first | exact Fr.refl _ _ | assumption)).mono ?_;rintro e w2 ⟨rfl,hf2⟩) | (go_at_call 156;refine(H3.out _ (by first | exact Fr.refl _ _ | assumption)).mono ?_;rintro e w3 ⟨rfl,hf3⟩))
      go_ret
      exact⟨by simp [valsR, *],by first | assumption | exact Fr.refl _ _⟩
    ·clear H3
     go_enter Tryz.func106,Tryz.ntmps106
     go_wp2_with (first | (go_at_call 156;refine(H1.out _ (by first | exact Fr.refl _ _ | assumption)).mono ?_;rintro e w1 ⟨rfl,hf1⟩) | (go_at_call 156;refine(H2.out _ (by first | exact Fr.refl _ _ | assumption)).mono ?_;rintro e w2 ⟨rfl,hf2⟩))
     go_ret
     exact⟨by simp [valsR, *],by first | assumption | exact Fr.refl _ _⟩
   ·clear H2 H3
    go_enter Tryz.func106,Tryz.ntmps106
    go_wp2_with (first | (go_at_call 156;refine(H1.out _ (by first | exact Fr.refl _ _ | assumption)).mono ?_;rintro e w1 ⟨rfl,hf1⟩))
    go_ret
    exact⟨by simp [valsR, *],by first | assumption | exact Fr.refl _ _⟩
  ·have d0:¬(n:Int)≤64:=by omega
   clear H1 H2 H3
   go_enter Tryz.func106,Tryz.ntmps106
   go_wp2
   go_ret
   exact⟨by simp [valsR, *],by first | assumption | exact Fr.refl _ _⟩
 ·obtain rfl:n=0:=by omega
  clear H1 H2 H3
  go_enter Tryz.func106,Tryz.ntmps106
  go_wp2
  go_ret
  exact⟨by simp [valsR, *],by first | assumption | exact Fr.refl _ _⟩
theorem ivals_4(w:World)(a:Option Addr)(n cap:Nat)(A:Int→Bool)(H:Hid (∀ w' k,Fr N0 w w'→Calls Tryz.prog 156 #[.slice a n cap,.int .u8 k] w' fun e w2=>e = .returned (.bool (A k))∧Fr N0 w w2)) :
  Calls Tryz.prog 106 #[.int .u8 4,.slice a n cap] w fun e w'=>e = .returned (.bool (valsR 4 n A))∧Fr N0 w w':=by
 obtain⟨A3,h3⟩:∃ x,A 3=x:=⟨_,rfl⟩
 have H3:=hhd fun w' hf=>H.out w' 3 hf
 simp only [h3] at H3
 clear H
 by_cases c:n=1
 ·subst c
  cases A3
  all_goals
   go_enter Tryz.func106,Tryz.ntmps106
   go_wp2_with (first | (go_at_call 156;refine(H3.out _ (by first | exact Fr.refl _ _ | assumption)).mono ?_;rintro e w3 ⟨rfl,hf3⟩))
   go_ret
   exact⟨by simp [valsR, *],by first | assumption | exact Fr.refl _ _⟩
 ·have c1:((n:Int) == 1)=false:=by rw[beq_eq_false_iff_ne];omega
  clear H3
  go_enter Tryz.func106,Tryz.ntmps106
  go_wp2
  go_ret
  exact⟨by simp [valsR, *],by first | assumption | exact Fr.refl _ _⟩
theorem ivals_5(w:World)(a:Option Addr)(n cap:Nat)(A:Int→Bool)(H:Hid (∀ w' k,Fr N0 w w'→Calls Tryz.prog 156 #[.slice a n cap,.int .u8 k] w' fun e w2=>e = .returned (.bool (A k))∧Fr N0 w w2)) :
  Calls Tryz.prog 106 #[.int .u8 5,.slice a n cap] w fun e w'=>e = .returned (.bool (valsR 5 n A))∧Fr N0 w w':=by
 obtain⟨A3,h3⟩:∃ x,A 3=x:=⟨_,rfl⟩
 have H3:=hhd fun w' hf=>H.out w' 3 hf
 simp only [h3] at H3
 clear H
 by_cases c:n=1
 ·subst c
  cases A3
  all_goals
   go_enter Tryz.func106,Tryz.ntmps106
   go_wp2_with (first | (go_at_call 156;refine(H3.out _ (by first | exact Fr.refl _ _ | assumption)).mono ?_;rintro e w3 ⟨rfl,hf3⟩))
   go_ret
   exact⟨by simp [valsR, *],by first | assumption | exact Fr.refl _ _⟩
 ·have c1:((n:Int) == 1)=false:=by rw[beq_eq_false_iff_ne];omega
  clear H3
  go_enter Tryz.func106,Tryz.ntmps106
  go_wp2
  go_ret
  exact⟨by simp [valsR, *],by first | assumption | exact Fr.refl _ _⟩
theorem ivals_6(w:World)(a:Option Addr)(n cap:Nat)(A:Int→Bool)(H:Hid (∀ w' k,Fr N0 w w'→Calls Tryz.prog 156 #[.slice a n cap,.int .u8 k] w' fun e w2=>e = .returned (.bool (A k))∧Fr N0 w w2)) :
  Calls Tryz.prog 106 #[.int .u8 6,.slice a n cap] w fun e w'=>e = .returned (.bool (valsR 6 n A))∧Fr N0 w w':=by
 obtain⟨A2,h2⟩:∃ x,A 2=x:=⟨_,rfl⟩
 have H2:=hhd fun w' hf=>H.out w' 2 hf
 simp only [h2] at H2
 clear H
 by_cases c:n=1
 ·subst c
  cases A2
  all_goals
   go_enter Tryz.func106,Tryz.ntmps106
   go_wp2_with (first | (go_at_call 156;refine(H2.out _ (by first | exact Fr.refl _ _ | assumption)).mono ?_;rintro e w2 ⟨rfl,hf2⟩))
   go_ret
   exact⟨by simp [valsR, *],by first | assumption | exact Fr.refl _ _⟩
 ·have c1:((n:Int) == 1)=false:=by rw[beq_eq_false_iff_ne];omega
  clear H2
  go_enter Tryz.func106,Tryz.ntmps106
  go_wp2
  go_ret
  exact⟨by simp [valsR, *],by first | assumption | exact Fr.refl _ _⟩
theorem ivals_7(w:World)(a:Option Addr)(n cap:Nat)(A:Int→Bool)(H:Hid (∀ w' k,Fr N0 w w'→Calls Tryz.prog 156 #[.slice a n cap,.int .u8 k] w' fun e w2=>e = .returned (.bool (A k))∧Fr N0 w w2)) :
  Calls Tryz.prog 106 #[.int .u8 7,.slice a n cap] w fun e w'=>e = .returned (.bool (valsR 7 n A))∧Fr N0 w w':=by
 obtain⟨A2,h2⟩:∃ x,A 2=x:=⟨_,rfl⟩
 have H2:=hhd fun w' hf=>H.out w' 2 hf
 simp only [h2] at H2
 clear H
 by_cases c:n=1
 ·subst c
  cases A2
  all_goals
   go_enter Tryz.func106,Tryz.ntmps106
   go_wp2_with (first | (go_at_call 156;refine(H2.out _ (by first | exact Fr.refl _ _ | assumption)).mono ?_;rintro e w2 ⟨rfl,hf2⟩))
   go_ret
   exact⟨by simp [valsR, *],by first | assumption | exact Fr.refl _ _⟩
 ·have c1:((n:Int) == 1)=false:=by rw[beq_eq_false_iff_ne];omega
  clear H2
  go_enter Tryz.func106,Tryz.ntmps106
  go_wp2
  go_ret
  exact⟨by simp [valsR, *],by first | assumption | exact Fr.refl _ _⟩
theorem ivals_8(w:World)(a:Option Addr)(n cap:Nat)(A:Int→Bool)(H:Hid (∀ w' k,Fr N0 w w'→Calls Tryz.prog 156 #[.slice a n cap,.int .u8 k] w' fun e w2=>e = .returned (.bool (A k))∧Fr N0 w w2)) :
  Calls Tryz.prog 106 #[.int .u8 8,.slice a n cap] w fun e w'=>e = .returned (.bool (valsR 8 n A))∧Fr N0 w w':=by
 obtain⟨A2,h2⟩:∃ x,A 2=x:=⟨_,rfl⟩
 have H2:=hhd fun w' hf=>H.out w' 2 hf
 simp only [h2] at H2
 clear H
 by_cases c:n=1
 ·subst c
  cases A2
  all_goals
   go_enter Tryz.func106,Tryz.ntmps106
   go_wp2_with (first | (go_at_call 156;refine(H2.out _ (by first | exact Fr.refl _ _ | assumption)).mono ?_;rintro e w2 ⟨rfl,hf2⟩))
   go_ret
   exact⟨by simp [valsR, *],by first | assumption | exact Fr.refl _ _⟩
 ·have c1:((n:Int) == 1)=false:=by rw[beq_eq_false_iff_ne];omega
  clear H2
  go_enter Tryz.func106,Tryz.ntmps106
  go_wp2
  go_ret
  exact⟨by simp [valsR, *],by first | assumption | exact Fr.refl _ _⟩
theorem ivals_9(w:World)(a:Option Addr)(n cap:Nat)(A:Int→Bool)(H:Hid (∀ w' k,Fr N0 w w'→Calls Tryz.prog 156 #[.slice a n cap,.int .u8 k] w' fun e w2=>e = .returned (.bool (A k))∧Fr N0 w w2)) :
  Calls Tryz.prog 106 #[.int .u8 9,.slice a n cap] w fun e w'=>e = .returned (.bool (valsR 9 n A))∧Fr N0 w w':=by
 obtain⟨A2,h2⟩:∃ x,A 2=x:=⟨_,rfl⟩
 have H2:=hhd fun w' hf=>H.out w' 2 hf
 simp only [h2] at H2
 clear H
 by_cases c:n=1
 ·subst c
  cases A2
  all_goals
   go_enter Tryz.func106,Tryz.ntmps106
   go_wp2_with (first | (go_at_call 156;refine(H2.out _ (by first | exact Fr.refl _ _ | assumption)).mono ?_;rintro e w2 ⟨rfl,hf2⟩))
   go_ret
   exact⟨by simp [valsR, *],by first | assumption | exact Fr.refl _ _⟩
 ·have c1:((n:Int) == 1)=false:=by rw[beq_eq_false_iff_ne];omega
  clear H2
  go_enter Tryz.func106,Tryz.ntmps106
  go_wp2
  go_ret
  exact⟨by simp [valsR, *],by first | assumption | exact Fr.refl _ _⟩
theorem ivals_11(w:World)(a:Option Addr)(n cap:Nat)(A:Int→Bool)(H:Hid (∀ w' k,Fr N0 w w'→Calls Tryz.prog 156 #[.slice a n cap,.int .u8 k] w' fun e w2=>e = .returned (.bool (A k))∧Fr N0 w w2)) :
  Calls Tryz.prog 106 #[.int .u8 11,.slice a n cap] w fun e w'=>e = .returned (.bool (valsR 11 n A))∧Fr N0 w w':=by
 obtain⟨A2,h2⟩:∃ x,A 2=x:=⟨_,rfl⟩
 have H2:=hhd fun w' hf=>H.out w' 2 hf
 simp only [h2] at H2
 clear H
 by_cases c:n=1
 ·subst c
  cases A2
  all_goals
   go_enter Tryz.func106,Tryz.ntmps106
   go_wp2_with (first | (go_at_call 156;refine(H2.out _ (by first | exact Fr.refl _ _ | assumption)).mono ?_;rintro e w2 ⟨rfl,hf2⟩))
   go_ret
   exact⟨by simp [valsR, *],by first | assumption | exact Fr.refl _ _⟩
 ·have c1:((n:Int) == 1)=false:=by rw[beq_eq_false_iff_ne];omega
  clear H2
  go_enter Tryz.func106,Tryz.ntmps106
  go_wp2
  go_ret
  exact⟨by simp [valsR, *],by first | assumption | exact Fr.refl _ _⟩
theorem ivals_10(w:World)(a:Option Addr)(n cap:Nat)(A:Int→Bool)(H:Hid (∀ w' k,Fr N0 w w'→Calls Tryz.prog 156 #[.slice a n cap,.int .u8 k] w' fun e w2=>e = .returned (.bool (A k))∧Fr N0 w w2)) :
  Calls Tryz.prog 106 #[.int .u8 10,.slice a n cap] w fun e w'=>e = .returned (.bool (valsR 10 n A))∧Fr N0 w w':=by
 obtain⟨A2,h2⟩:∃ x,A 2=x:=⟨_,rfl⟩
 have H2:=hhd fun w' hf=>H.out w' 2 hf
 simp only [h2] at H2
 clear H
 by_cases c:n=2
 ·subst c
  cases A2
  all_goals
   go_enter Tryz.func106,Tryz.ntmps106
   go_wp2_with (first | (go_at_call 156;refine(H2.out _ (by first | exact Fr.refl _ _ | assumption)).mono ?_;rintro e w2 ⟨rfl,hf2⟩))
   go_ret
   exact⟨by simp [valsR, *],by first | assumption | exact Fr.refl _ _⟩
 ·have c1:((n:Int) == 2)=false:=by rw[beq_eq_false_iff_ne];omega
  clear H2
  go_enter Tryz.func106,Tryz.ntmps106
  go_wp2
  go_ret
  exact⟨by simp [valsR, *],by first | assumption | exact Fr.refl _ _⟩
theorem ivals_any(w:World)(b:Nat)(v:Value)(l:List Val)(h:RowsK Val.enc 5 w b v l)(hu:∀ x ∈ l,0≤x.u)(hl:l.length≤9223372036854775807)(kd:Int) :
  Calls Tryz.prog 106 #[.int .u8 kd,v] w fun e w'=>e = .returned (.bool (valsOk kd l))∧Fr N0 w w':=by
 obtain⟨a,off,cap,rfl,-⟩:=id h
 have H:=iall_hid h hu hl
 show Calls _ _ _ _ fun e w'=>e = .returned (.bool (valsR kd l.length fun k=>allV k l))∧Fr N0 w w'
 obtain⟨n,hn⟩:∃ n,l.length=n:=⟨_,rfl⟩
 obtain⟨A,hA⟩:∃ A:Int→Bool,(fun k=>allV k l)=A:=⟨_,rfl⟩
 have hA':∀ k,allV k l=A k:=fun k=>by rw[← hA]
 simp only [hA'] at H
 rw[hn] at H ⊢
 rw[hA]
 by_cases k2:kd=2
 ·subst k2;exact ivals_2 w a n cap A H
 by_cases k3:kd=3
 ·subst k3;exact ivals_3 w a n cap A H
 by_cases k4:kd=4
 ·subst k4;exact ivals_4 w a n cap A H
 by_cases k5:kd=5
 ·subst k5;exact ivals_5 w a n cap A H
 by_cases k6:kd=6
 ·subst k6;exact ivals_6 w a n cap A H
 by_cases k7:kd=7
 ·subst k7;exact ivals_7 w a n cap A H
 by_cases k8:kd=8
 ·subst k8;exact ivals_8 w a n cap A H
 by_cases k9:kd=9
 ·subst k9;exact ivals_9 w a n cap A H
 by_cases k11:kd=11
 ·subst k11;exact ivals_11 w a n cap A H
 by_cases k10:kd=10
 ·subst k10;exact ivals_10 w a n cap A H
 have e:valsR kd n A=false:=by unfold valsR;simp [k2,k3,k4,k5,k6,k7,k8,k9,k10,k11]
 rw[e]
 clear H e h
 have b2:(kd == 2)=false:=by simpa using k2
 have b3:(kd == 3)=false:=by simpa using k3
 have b4:(kd == 4)=false:=by simpa using k4
 have b5:(kd == 5)=false:=by simpa using k5
 have b6:(kd == 6)=false:=by simpa using k6
 have b7:(kd == 7)=false:=by simpa using k7
 have b8:(kd == 8)=false:=by simpa using k8
 have b9:(kd == 9)=false:=by simpa using k9
 have b10:(kd == 10)=false:=by simpa using k10
 have b11:(kd == 11)=false:=by simpa using k11
 go_enter Tryz.func106,Tryz.ntmps106
 go_wp2
 go_ret
 exact⟨rfl,Fr.refl _ _⟩
structure Fn where
 kind:Int
 pred:ByteArray
 back:Bool
 vals:List Val
 uids:Nat:=0
 vars:Nat:=0
def Fn.enc(f:Fn)(vv uv sv:Value):Array Value:=#[.int .u8 f.kind,.string f.pred,.bool f.back,vv,uv,sv]
structure FnAt(w:World)(b:Nat)(f:Fn)(vv uv sv:Value):Prop where
 vals:RowsK Val.enc 5 w b vv f.vals
 nn:∀ x ∈ f.vals,0≤x.u
 len:f.vals.length≤9223372036854775807
 uids:∃ a c,uv = .slice a f.uids c
 vars:∃ a c,sv = .slice a f.vars c
theorem FnAt.fr{w w':World}{b:Nat}{f:Fn}{vv uv sv:Value}(h:FnAt w b f vv uv sv)(hf:Fr N0 w w'):FnAt w' b f vv uv sv:=
 ⟨rowsK_frT (enc:=Val.enc) (n:=5) val_len h.vals hf fun _=>id,h.nn,h.len,h.uids,h.vars⟩
def mayR(P U S plain back V:Bool):Int:=if P && U && S && !(back && !plain) && V then 0 else 190
noncomputable def fnMay(f:Fn):Int:=mayR (predOk f.pred) (decide (f.uids=0)) (decide (f.vars=0)) (f.kind == 2 || f.kind == 11) f.back (valsOk f.kind f.vals)
theorem imay_any(w:World)(b:Nat)(f:Fn)(vv uv sv:Value)(h:FnAt w b f vv uv sv) :
  Calls Tryz.prog 38 #[.agg (f.enc vv uv sv)] w fun e w'=>e = .returned (.int .i64 (fnMay f))∧Fr N0 w w':=by
 have hv:=fun w' (hf:Fr N0 w w')=>ivals_any w' b vv f.vals (h.fr hf).vals h.nn h.len f.kind
 obtain⟨ua,uc,rfl⟩:=h.uids
 obtain⟨sa,sc,rfl⟩:=h.vars
 obtain⟨va,voff,vc,rfl,-⟩:=h.vals
 obtain⟨kd,pred,back,vals,nu,ns⟩:=f
 have hp:=tPred_any pred
 unfold fnMay
 simp only [Fn.enc] at *
 obtain⟨P,hP⟩:∃ P,predOk pred=P:=⟨_,rfl⟩
 obtain⟨V,hV⟩:∃ V,valsOk kd vals=V:=⟨_,rfl⟩
 obtain⟨n,hn⟩:∃ n,vals.length=n:=⟨_,rfl⟩
 simp only [hP,hV,hn] at hp hv ⊢
 have HV:=hhd hv
 clear hv h hP hV hn
 obtain⟨b2,h2⟩:∃ x,(kd == 2)=x:=⟨_,rfl⟩
 obtain⟨b11,h11⟩:∃ x,(kd == 11)=x:=⟨_,rfl⟩
 rw[h2,h11]
 cases P
 ·simp only [Bool.false_eq_true,if_false] at hp
  have HP:=hhd hp
  clear hp HV
  cases b2
  ·cases b11
   all_goals
    go_enter Tryz.func38,Tryz.ntmps38
    go_wp2_with (go_at_call 105;refine(HP.out _).mono ?_;rintro e w1 ⟨rfl,hf1⟩)
    go_ret
    exact⟨by simp [mayR],((Fr.refl _ _).alloc _).then0 hf1⟩
  ·go_enter Tryz.func38,Tryz.ntmps38
   go_wp2_with (go_at_call 105;refine(HP.out _).mono ?_;rintro e w1 ⟨rfl,hf1⟩)
   go_ret
   exact⟨by simp [mayR],((Fr.refl _ _).alloc _).then0 hf1⟩
 simp only [if_true] at hp
 have HP:=hhd hp
 clear hp
 by_cases hu:nu=0
 ·subst hu
  by_cases hs:ns=0
  ·subst hs
   cases back <;> cases b2 <;> cases b11 <;> cases V
   all_goals
    go_enter Tryz.func38,Tryz.ntmps38
    go_wp2_with (first
     |(go_at_call 105;refine(HP.out _).mono ?_;rintro e w1 ⟨rfl,hf1⟩;have hb1:=(hf1.at (k:=w.heap.size) id (by simp)).trans (World.alloc_heap_new w _);obtain⟨m1,n1,l1⟩:=box_cells hb1)
     |(go_at_call 106;refine(HV.out _ (((Fr.refl _ _).alloc _).then0 hf1)).mono ?_;rintro e w2 ⟨rfl,hf2⟩))
    go_ret
    first
     | exact⟨by simp [mayR, *],(((Fr.refl _ _).alloc _).then0 hf1).then0 hf2⟩
     | exact⟨by simp [mayR, *],((Fr.refl _ _).alloc _).then0 hf1⟩
  ·have hs0:(0:Int) < (ns:Int):=by omega
   clear HV
   cases b2 <;> cases b11
   all_goals
    go_enter Tryz.func38,Tryz.ntmps38
    go_wp2_with (first
     |(go_at_call 105;refine(HP.out _).mono ?_;rintro e w1 ⟨rfl,hf1⟩;have hb1:=(hf1.at (k:=w.heap.size) id (by simp)).trans (World.alloc_heap_new w _);obtain⟨m1,n1,l1⟩:=box_cells hb1)
     |(go_at_call 106;refine(HV.out _ (((Fr.refl _ _).alloc _).then0 hf1)).mono ?_;rintro e w2 ⟨rfl,hf2⟩))
    go_ret
    first
     | exact⟨by simp [mayR, *],(((Fr.refl _ _).alloc _).then0 hf1).then0 hf2⟩
     | exact⟨by simp [mayR, *],((Fr.refl _ _).alloc _).then0 hf1⟩
 ·have hu0:(0:Int) < (nu:Int):=by omega
  clear HV
  cases b2 <;> cases b11
  all_goals
   go_enter Tryz.func38,Tryz.ntmps38
   go_wp2_with (first
    |(go_at_call 105;refine(HP.out _).mono ?_;rintro e w1 ⟨rfl,hf1⟩;have hb1:=(hf1.at (k:=w.heap.size) id (by simp)).trans (World.alloc_heap_new w _);obtain⟨m1,n1,l1⟩:=box_cells hb1)
    |(go_at_call 106;refine(HV.out _ (((Fr.refl _ _).alloc _).then0 hf1)).mono ?_;rintro e w2 ⟨rfl,hf2⟩))
   go_ret
   first
    | exact⟨by simp [mayR, *],(((Fr.refl _ _).alloc _).then0 hf1).then0 hf2⟩
    | exact⟨by simp [mayR, *],((Fr.refl _ _).alloc _).then0 hf1⟩
end Go.Proofs.YtefepfiijoafbaaGreat
