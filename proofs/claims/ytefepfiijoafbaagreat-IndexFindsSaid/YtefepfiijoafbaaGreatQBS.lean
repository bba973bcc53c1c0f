/- Box Val Pred Trip ShS BS -/
import Derived.Test.YtefepfiijoafbaaGreatChecked
import Derived.Deep.QuietTactic
import Derived.Laws.RangeAny
import Derived.Deep.RegionHeld3
import Derived.Test.YtefepfiijoafbaaGreatQBase
set_option linter.unusedVariables false
set_option linter.unusedSimpArgs false
set_option maxRecDepth 100000
set_option maxHeartbeats 2000000
namespace Go.Proofs.YtefepfiijoafbaaGreat
section
open Go.RowKit Go.Shelf
abbrev BoxS(W0:World)(B:Nat)(cs:Array Value)(W:World):Prop:=(∀ i,W.cell? ⟨B,i,none⟩=cs[i]?)∧B < W.heap.size∧Fr N0 W0 W
theorem boxS_new(w:World)(cs:Array Value)(t:TypeId):BoxS w w.heap.size cs (w.alloc (.cells cs t)):=by
 refine⟨fun i=>?_,by simp,(Fr.refl _ _).alloc _⟩
 have h:=World.alloc_heap_new w (.cells cs t)
 show(match (w.alloc (.cells cs t)).heap[w.heap.size]? with
  | some (.cells c _ _)=>if (none:Option _).isSome then none else c[i]?
  | _=>none)=_
 rw[h]
 rfl
theorem boxS_keep{W0:World}{B:Nat}{cs:Array Value}{W W':World}(hf:Fr N0 W W')(h:BoxS W0 B cs W):BoxS W0 B cs W':=
 ⟨fun i=>(cell_same (p:=⟨B,i,none⟩) (hf.at id h.2.1)).trans (h.1 i),Nat.lt_of_lt_of_le h.2.1 hf.size,h.2.2.then0 hf⟩
end
section
open Go.RowKit Go.Shelf
attribute [local go_sem] Oper.semAt_some
structure Val where
 k:Int
 b:Bool
 n:Int
 s:ByteArray
 u:Int
def Val.enc(v:Val):List Value:=[.int .u8 v.k,.bool v.b,.int .i64 v.n,.string v.s,.int .u64 v.u]
theorem toList_eq_data:∀ (s:ByteArray),s.toList=s.data.toList:=ByteArray.toList_eq
theorem toList_nil(s:ByteArray):s.toList = []↔s.size=0:=by
 rw[toList_eq_data,show s.size=s.data.toList.length from Array.length_toList.symm];exact List.length_eq_zero_iff.symm
def valMay(v:Val):Bool:=
 if v.k == 1 then decide (v.n=0) && decide (v.s.size=0) && decide (v.u=0)
 else if v.k == 2 then !v.b && decide (v.s.size=0) && decide (v.u=0)
 else if v.k == 3 then !v.b && decide (v.n=0) && decide (v.u=0) && decide ((v.s.size:Int)≤4096)
 else if v.k == 4 then !v.b && decide (v.n=0) && decide (v.s.size=0) && decide (0 < v.u)
 else false
theorem r3May_any(v:Val)(w:World):Calls Tryz.prog 155 #[.agg v.enc.toArray] w fun e w'=>e = .returned (.bool (valMay v))∧Fr N0 w w':=by
 unfold Val.enc
 go_enter Tryz.func155,Tryz.ntmps155
 go_wp2
 all_goals
  go_ret
  refine⟨ret_bool ?_,(by repeat (first | exact Fr.refl _ _ | assumption | refine Fr.alloc ?_ _ | refine Fr.drew ?_ | refine Fr.drewN ?_ _ | refine Fr.setCell ?_ (.inr (by simp;try omega)) _))⟩
  simp_all [valMay,toList_nil] <;> rfl
theorem vMay_any(v:Val)(hu:0≤v.u)(w:World):Calls Tryz.prog 183 #[.agg v.enc.toArray] w fun e w'=>e = .returned (.int .i64 (if valMay v then 0 else 30))∧Fr N0 w w':=by
 unfold Val.enc
 go_enter Tryz.func183,Tryz.ntmps183
 go_wp2
 all_goals
  go_ret
  refine⟨ret_int ?_,(by repeat (first | exact Fr.refl _ _ | assumption | refine Fr.alloc ?_ _ | refine Fr.drew ?_ | refine Fr.drewN ?_ _ | refine Fr.setCell ?_ (.inr (by simp;try omega)) _))⟩
  simp_all [valMay,toList_nil] <;> omega
def okc(c:Nat):Bool:=(decide (97≤c) && decide (c≤122)) ||(decide (48≤c) && decide (c≤57)) || c == 95 || c == 46
def okAll(s:ByteArray):Prop:=∀ j (h:j < s.size),okc s[j].toNat=true
def predOkP(s:ByteArray):Prop:=∃ h:0 < s.size,s.size≤64∧97≤s[0].toNat∧s[0].toNat≤122∧okAll s
open Classical in
noncomputable def predOk(s:ByteArray):Bool:=decide (predOkP s)
theorem predOk_true{s:ByteArray}(h:predOkP s):predOk s=true:=by simp [predOk,h]
theorem predOk_false{s:ByteArray}(h:¬ predOkP s):predOk s=false:=by simp [predOk,h]
theorem okc_not{c:Nat}(h:okc c=false):((((c:Int) < 97)∨(122:Int) < c)∧(((c:Int) < 48)∨(57:Int) < c)∧((c:Int) != 95)=true∧((c:Int) != 46)=true):=by
 simp [okc] at h;simp only [bne_iff_ne];omega
theorem okc_is{c:Nat}(h:okc c=true):((97:Int)≤c∧(c:Int)≤122)∨((48:Int)≤c∧(c:Int)≤57)∨(c:Int)=95∨(c:Int)=46:=by
 simp [okc] at h;omega
theorem okc_high{c:Nat}(h:128≤c):okc c=false:=by
 simp [okc];omega
theorem r4Pred_any(s:ByteArray)(w:World):Calls Tryz.prog 103 #[.string s] w fun e w'=>e = .returned (.bool (predOk s))∧w'=w:=by
 by_cases h0:0 < s.size
 case neg=>
  have hn:=predOk_false (s:=s) fun h=>h0 h.choose
  have e0:(s.size:Int) < 1:=by omega
  simp only [hn]
  go_enter Tryz.func103,Tryz.ntmps103
  go_wp2
  go_ret
  exact⟨rfl,rfl⟩
 by_cases h1:64 < (s.size:Int)
 ·have hn:=predOk_false (s:=s) fun h=>by have:=h.choose_spec.1;omega
  have e0:¬(s.size:Int) < 1:=by omega
  go_enter Tryz.func103,Tryz.ntmps103
  go_wp2
  go_ret
  exact⟨rfl,rfl⟩
 have e0:¬(s.size:Int) < 1:=by omega
 obtain⟨c0,hc0⟩:∃ c,s[0].toNat=c:=⟨_,rfl⟩
 by_cases h2:(c0:Int) < 97
 ·have hn:=predOk_false (s:=s) fun h=>by have:=h.choose_spec.2.1;omega
  go_enter Tryz.func103,Tryz.ntmps103
  go_wp2
  go_ret
  exact⟨rfl,rfl⟩
 by_cases h3:122 < (c0:Int)
 ·have hn:=predOk_false (s:=s) fun h=>by have:=h.choose_spec.2.2.1;omega
  go_enter Tryz.func103,Tryz.ntmps103
  go_wp2
  go_ret
  exact⟨rfl,rfl⟩
 have hp:predOkP s↔okAll s:=⟨fun h=>h.choose_spec.2.2.2,fun h=>⟨h0,by omega,by omega,by omega,h⟩⟩
 have HP:=hhd hp
 clear hp
 go_enter Tryz.func103,Tryz.ntmps103
 go_wp2
 go_loop [3] (fun i=>∃ k:Nat,k≤s.size∧i = .int .i64 k∧Hid (∀ j (h:j < s.size),j < k→okc s[j].toNat=true)) (fun i=>s.size - (intOf i).toNat)
 case atStart=>exact⟨0,Nat.zero_le _,rfl,fun j h hj=>by omega⟩
 case round=>
  obtain⟨k,hk,rfl,hn⟩:=hrel
  by_cases hlt:k < s.size
  ·obtain⟨c,hc⟩:∃ c,s[k].toNat=c:=⟨_,rfl⟩
   have hlt':(k:Int) < (s.size:Int):=by omega
   cases hok:okc c with
   | true=>
    have hk1:∀ j (h:j < s.size),j < k+1→okc s[j].toNat=true:=fun j h hj=>by
     rcases Nat.lt_or_ge j k with h1 | h1
     ·exact hn.out j h h1
     ·have:j=k:=by omega
      subst this;rw[hc];exact hok
    have HK:=hhd hk1
    clear hk1 hn
    rcases okc_is hok with h4 | h4 | h4 | h4
    all_goals
     clear hok
     go_wp2
     go_round
     case rel=>exact⟨k+1,by omega,by go_num,HK.out⟩
     case measure=>simp [intOf];omega
   | false=>
    have hne:¬ okAll s:=fun h=>by have:=h k hlt;rw[hc,hok] at this;cases this
    have hpn:=predOk_false fun h=>hne (HP.out.1 h)
    obtain⟨n1,n2,n3,n4⟩:=okc_not hok
    clear hn hok hne
    rcases n1 with n1 | n1
    all_goals
     rcases n2 with n2 | n2
    all_goals go_wp2
    all_goals
     go_ret
     exact⟨rfl,rfl⟩
  ·obtain rfl:k=s.size:=by omega
   have hpt:=predOk_true (HP.out.2 fun j h=>hn.out j h h)
   go_wp2
   go_ret
   exact⟨rfl,rfl⟩
theorem tPred_any(s:ByteArray)(w:World):Calls Tryz.prog 105 #[.string s] w fun e w'=>e = .returned (.int .i64 (if predOk s then 0 else 40))∧Fr N0 w w':=by
 by_cases h0:0 < s.size
 case neg=>
  have hn:=predOk_false (s:=s) fun h=>h0 h.choose
  have e0:(s.size:Int) < 1:=by omega
  simp only [hn]
  go_enter Tryz.func105,Tryz.ntmps105
  go_wp2
  go_ret
  exact⟨rfl,Fr.refl _ _⟩
 by_cases h1:64 < (s.size:Int)
 ·have hn:=predOk_false (s:=s) fun h=>by have:=h.choose_spec.1;omega
  have e0:¬(s.size:Int) < 1:=by omega
  go_enter Tryz.func105,Tryz.ntmps105
  go_wp2
  go_ret
  exact⟨rfl,Fr.refl _ _⟩
 have e0:¬(s.size:Int) < 1:=by omega
 obtain⟨c0,hc0⟩:∃ c,s[0].toNat=c:=⟨_,rfl⟩
 by_cases h2:(c0:Int) < 97
 ·have hn:=predOk_false (s:=s) fun h=>by have:=h.choose_spec.2.1;omega
  go_enter Tryz.func105,Tryz.ntmps105
  go_wp2
  go_ret
  exact⟨rfl,Fr.refl _ _⟩
 by_cases h3:122 < (c0:Int)
 ·have hn:=predOk_false (s:=s) fun h=>by have:=h.choose_spec.2.2.1;omega
  go_enter Tryz.func105,Tryz.ntmps105
  go_wp2
  go_ret
  exact⟨rfl,Fr.refl _ _⟩
 have hp:predOkP s↔okAll s:=⟨fun h=>h.choose_spec.2.2.2,fun h=>⟨h0,by omega,by omega,by omega,h⟩⟩
 have HP:=hhd hp
 clear hp
 go_enter Tryz.func105,Tryz.ntmps105
 go_wp2
 go_loopw [4] (fun _ w'=>∃ pos:Nat,w'=w.iter s pos∧Hid (∀ j (h:j < s.size),j < pos→okc s[j].toNat=true)) (fun _ w'=>s.size - w'.iterPos w.heap.size)
 case atStart=>exact⟨0,rfl,fun j h hj=>by omega⟩
 case round=>
  obtain⟨k,rfl,hn⟩:=hrel
  by_cases hlt:k < s.size
  ·obtain⟨c,hc⟩:∃ c,s[k].toNat=c:=⟨_,rfl⟩
   have hnx:∀ ty,(Instr.next (.pointer (some ⟨w.heap.size,0,none⟩)) true ty).run Tryz.prog (w.iter s k)=_:=fun ty=>run_next_any w s k ty hlt
   cases hok:okc c with
   | true=>
    have hk1:∀ j (h:j < s.size),j < k+1→okc s[j].toNat=true:=fun j h hj=>by
     rcases Nat.lt_or_ge j k with h1 | h1
     ·exact hn.out j h h1
     ·have:j=k:=by omega
      subst this;rw[hc];exact hok
    have h128:c < 128:=by
     rcases Nat.lt_or_ge c 128 with h | h
     ·exact h
     ·rw[okc_high h] at hok;cases hok
    have hdec:=decode_ascii s k hlt (by rw[hc];exact h128)
    rw[hc] at hdec
    rw[hdec] at hnx
    have HK:=hhd hk1
    clear hk1 hn hdec hc
    rcases okc_is hok with h4 | h4 | h4 | h4
    all_goals
     clear hok
     go_wp2
     go_roundw
     case rel=>exact⟨k+1,rfl,HK.out⟩
     case measure=>simp;omega
   | false=>
    have hne:¬ okAll s:=fun h=>by have:=h k hlt;rw[hc,hok] at this;cases this
    have hpn:=predOk_false fun h=>hne (HP.out.1 h)
    have hr:okc (Utf8.decode s k).1=false:=by
     by_cases h128:c < 128
     ·rw[decode_ascii s k hlt (by rw[hc];exact h128),hc];exact hok
     ·exact okc_high (decode_high s k hlt (by rw[hc];omega)).1
    obtain⟨r,hrr⟩:∃ r,(Utf8.decode s k).1=r:=⟨_,rfl⟩
    obtain⟨d,hdd⟩:∃ r,(Utf8.decode s k).2=r:=⟨_,rfl⟩
    rw[hrr] at hr hnx
    rw[hdd] at hnx
    obtain⟨n1,n2,n3,n4⟩:=okc_not hr
    clear hn hok hne hr hrr hdd hc
    rcases n1 with n1 | n1
    all_goals
     rcases n2 with n2 | n2
    all_goals go_wp2
    all_goals
     go_ret
     exact⟨rfl,(Fr.refl _ _).alloc _⟩
  ·have hnx:∀ ty,(Instr.next (.pointer (some ⟨w.heap.size,0,none⟩)) true ty).run Tryz.prog (w.iter s k)=_:=fun ty=>run_next_end w s k ty hlt
   have hpt:=predOk_true (HP.out.2 fun j h=>hn.out j h (by omega))
   go_wp2
   go_ret
   exact⟨rfl,(Fr.refl _ _).alloc _⟩
structure Wr where
 del:Bool
 uid:Int
 pred:ByteArray
 val:Val
def Wr.tenc(x:Wr):List Value:=[.int .u64 x.uid,.string x.pred,.int .u8 x.val.k,.bool x.val.b,.int .i64 x.val.n,.string x.val.s,.int .u64 x.val.u]
def Wr.enc(x:Wr):List Value:=[.bool x.del,.int .u64 x.uid,.string x.pred,.int .u8 x.val.k,.bool x.val.b,.int .i64 x.val.n,.string x.val.s,.int .u64 x.val.u]
def Wr.wf(x:Wr):Prop:=0≤x.uid∧0≤x.val.u∧0≤x.val.k
noncomputable def trMay(x:Wr):Int:=if x.uid=0 then 41 else if predOk x.pred=false then 40 else if valMay x.val=false then 30 else 0
def firstNZ:List Int→Int
 | []=>0
 | x :: r=>if x=0 then firstNZ r else x
theorem cmpOr_any(w:World)(b:Nat)(v:Value)(xs:List Int)(h:Ints .i64 w b v xs):Calls Tryz.prog 225 #[v] w fun e w'=>e = .returned (.int .i64 (firstNZ xs))∧w'=w:=by
 obtain⟨a,off,cap,rfl,h1,h2,h3,h4,h5,h6⟩:=h
 have HC:=hhd h5;clear h5 h6 h4
 go_enter Tryz.func225,Tryz.ntmps225
 go_wp2
 go_loop [8] (fun i=>∃ k:Nat,k≤xs.length∧i = .int .i64 k∧Hid (firstNZ xs=firstNZ (xs.drop k))) (fun i=>xs.length - (intOf i).toNat)
 case atStart=>exact⟨0,Nat.zero_le _,rfl,rfl⟩
 case round=>
  obtain⟨k,hk,rfl,hn⟩:=hrel
  by_cases hlt:k < xs.length
  ·obtain rfl:=h3 (by omega)
   have hck:=HC.out k hlt
   have hd:firstNZ (xs.drop k)=if xs[k]=0 then firstNZ (xs.drop (k+1)) else xs[k]:=by
    rw[List.drop_eq_getElem_cons hlt,firstNZ]
   obtain⟨x,hx⟩:∃ x,xs[k]=x:=⟨_,rfl⟩
   rw[hx] at hck hd
   have hlt':(k:Int) < (xs.length:Int):=by omega
   have hn':=hn.out.trans hd
   clear hn hd hx
   by_cases hx0:x=0
   ·subst hx0
    rw[if_pos rfl] at hn'
    have HN:=hhd hn'
    clear hn'
    go_wp2
    go_round
    case rel=>exact⟨k+1,by omega,by go_num,HN.out⟩
    case measure=>simp [intOf];omega
   ·rw[if_neg hx0] at hn'
    have HN:=hhd hn'
    have hx1:(x != 0)=true:=by simpa using hx0
    clear hn'
    go_wp2
    go_ret
    exact⟨ret_int HN.out.symm,rfl⟩
  ·obtain rfl:k=xs.length:=by omega
   have hn':=hn.out
   rw[List.drop_of_length_le (Nat.le_refl _)] at hn'
   have HN:=hhd hn'
   clear hn hn'
   go_wp2
   go_ret
   exact⟨ret_int HN.out.symm,rfl⟩
theorem first_any(w:World)(b:Nat)(v:Value)(xs:List Int)(h:Ints .i64 w b v xs):Calls Tryz.prog 182 #[v] w fun e w'=>e = .returned (.int .i64 (firstNZ xs))∧w'=w:=by
 have hc:=cmpOr_any w b v xs h
 obtain⟨a,off,cap,rfl,_⟩:=h
 go_enter Tryz.func182,Tryz.ntmps182
 go_wp2_with (go_at_call 225;refine hc.mono ?_;rintro e w1 ⟨rfl,rfl⟩)
 go_ret
 exact⟨rfl,rfl⟩
theorem ints_two(w:World)(x y:Int)(hx:(Lit.int .i64 x).wf=true)(hy:(Lit.int .i64 y).wf=true):Ints .i64 (w.alloc (.cells #[.int .i64 x,.int .i64 y] 39)) w.heap.size (.slice (some ⟨w.heap.size,0,none⟩) 2 2) [x,y]:=by
 have hc:=World.alloc_heap_new w (.cells #[.int .i64 x,.int .i64 y] 39)
 refine⟨some ⟨w.heap.size,0,none⟩,0,2,rfl,by simp,by omega,fun _=>rfl,by simp,fun i hi=>?_,by simp [hx,hy]⟩
 match i,hi with
 | 0,_=>simp only [World.cell?,Nat.zero_add,hc];rfl
 | 1,_=>simp only [World.cell?,Nat.zero_add,hc];rfl
theorem r4May_any(x:Wr)(w:World):Calls Tryz.prog 236 #[.agg x.tenc.toArray] w fun e w'=>e = .returned (.int .i64 (trMay x))∧Fr N0 w w':=by
 have h1:=fun W=>r4Pred_any x.pred W
 have h2:=fun W=>r3May_any x.val W
 unfold Wr.tenc
 unfold Val.enc at h2
 unfold trMay
 by_cases h0:x.uid=0
 ·simp only [h0,if_true]
  go_enter Tryz.func236,Tryz.ntmps236
  go_wp2
  go_ret
  exact⟨rfl,(by repeat (first | exact Fr.refl _ _ | assumption | refine Fr.alloc ?_ _ | refine Fr.drew ?_ | refine Fr.drewN ?_ _ | refine Fr.setCell ?_ (.inr (by simp;try omega)) _))⟩
 simp only [h0,if_false]
 have h0':(x.uid == 0)=false:=by simpa using h0
 obtain⟨pb,hpb⟩:∃ b,predOk x.pred=b:=⟨_,rfl⟩
 obtain⟨vb,hvb⟩:∃ b,valMay x.val=b:=⟨_,rfl⟩
 simp only [hpb] at h1 ⊢
 simp only [hvb] at h2 ⊢
 have H1:=hhd h1;have H2:=hhd h2
 clear h1 h2 hpb hvb
 cases pb
 ·go_enter Tryz.func236,Tryz.ntmps236
  go_wp2_with (go_at_call 103;refine(H1.out _).mono ?_;rintro e w1 ⟨rfl,rfl⟩)
  go_ret
  exact⟨rfl,(by repeat (first | exact Fr.refl _ _ | assumption | refine Fr.alloc ?_ _ | refine Fr.drew ?_ | refine Fr.drewN ?_ _ | refine Fr.setCell ?_ (.inr (by simp;try omega)) _))⟩
 ·cases vb
  all_goals
   go_enter Tryz.func236,Tryz.ntmps236
   go_wp2_with (first
    |(go_at_call 103;refine(H1.out _).mono ?_;rintro e w1 ⟨rfl,rfl⟩)
    |(go_at_call 155;refine(H2.out _).mono ?_;rintro e w2 ⟨rfl,hf2⟩))
   go_ret
   exact⟨rfl,((Fr.refl _ _).alloc _).then0 (by assumption)⟩
theorem tMay_any(x:Wr)(hx:x.wf)(w:World):Calls Tryz.prog 115 #[.agg x.tenc.toArray] w fun e w'=>e = .returned (.int .i64 (trMay x))∧Fr N0 w w':=by
 have h1:=fun W=>tPred_any x.pred W
 have h2:=fun W=>vMay_any x.val hx.2.1 W
 unfold Wr.tenc
 unfold Val.enc at h2
 unfold trMay
 by_cases h0:x.uid=0
 ·simp only [h0,if_true]
  go_enter Tryz.func115,Tryz.ntmps115
  go_wp2
  go_ret
  exact⟨rfl,(by repeat (first | exact Fr.refl _ _ | assumption | refine Fr.alloc ?_ _ | refine Fr.drew ?_ | refine Fr.drewN ?_ _ | refine Fr.setCell ?_ (.inr (by simp;try omega)) _))⟩
 simp only [h0,if_false]
 have h0':(x.uid == 0)=false:=by simpa using h0
 obtain⟨e1,he1⟩:∃ e:Int,(if predOk x.pred=true then 0 else 40)=e:=⟨_,rfl⟩
 obtain⟨e2,he2⟩:∃ e:Int,(if valMay x.val=true then 0 else 30)=e:=⟨_,rfl⟩
 have hw1:(Lit.int .i64 e1).wf=true:=by rw[← he1];split <;> decide
 have hw2:(Lit.int .i64 e2).wf=true:=by rw[← he2];split <;> decide
 have hres:firstNZ [e1,e2]=if predOk x.pred=false then 40 else if valMay x.val=false then 30 else 0:=by
  rw[← he1,← he2]
  cases predOk x.pred <;> cases valMay x.val <;> simp [firstNZ]
 rw[← hres]
 simp only [he1] at h1
 simp only [he2] at h2
 have H1:=hhd h1;have H2:=hhd h2
 clear h1 h2 he1 he2 hres
 go_enter Tryz.func115,Tryz.ntmps115
 go_wp2
 obtain⟨cs,hcs⟩:∃ cs,cs=#[Value.int IntKind.u64 x.uid,Value.string x.pred,Value.int IntKind.u8 x.val.k,Value.bool x.val.b,Value.int IntKind.i64 x.val.n,Value.string x.val.s,Value.int IntKind.u64 x.val.u]:=⟨_,rfl⟩
 have hS:=boxS_new w cs 59
 rw[← hcs]
 obtain⟨W1,hW1⟩:∃ W,w.alloc (.cells cs 59)=W:=⟨_,rfl⟩
 rw[hW1] at hS ⊢
 rw[hcs] at hS
 clear hW1 hcs
 go_region_held3 (BoxS w w.heap.size #[Value.int IntKind.u64 x.uid,Value.string x.pred,Value.int IntKind.u8 x.val.k,Value.bool x.val.b,Value.int IntKind.i64 x.val.n,Value.string x.val.s,Value.int IntKind.u64 x.val.u])
  (first | exact hS | exact boxS_keep ((Fr.refl _ _).drew) hS | exact boxS_keep hf6 (by assumption) | exact boxS_keep ((Fr.refl _ _).alloc _) (by assumption) | assumption) (first
   |(go_at_call 105;go_loud (refine(H1.out _).mono ?_);rintro e w1 ⟨rfl,hf6⟩)
   |(go_at_call 183;go_loud (refine(H2.out _).mono ?_);rintro e w2 ⟨rfl,hf6⟩)
   |(go_at_call 182;go_loud (refine(first_any _ _ _ _ (ints_two _ _ _ hw1 hw2)).mono ?_);rintro e w3 ⟨rfl,rfl⟩))
 go_wp2
 go_ret
 exact⟨rfl,by go_split_ands;assumption⟩
structure Sch where
 pred:ByteArray
 ty:Int
 list:Bool
 exact_:Bool
 term:Bool
 order:Bool
 rev:Bool
 count:Bool
def Sch.enc(s:Sch):List Value:=[.string s.pred,.int .u8 s.ty,.bool s.list,.bool s.exact_,.bool s.term,.bool s.order,.bool s.rev,.bool s.count]
def schBad(s:Sch):Bool:=decide (s.ty < 1) || decide (4 < s.ty) ||(s.term && s.ty != 3) ||(s.order && s.ty != 2) ||(s.rev && s.ty != 4)
noncomputable def schMay(s:Sch):Int:=if predOk s.pred=false then 40 else if schBad s then 43 else 0
theorem r4Schema_any(x:Sch)(w:World):Calls Tryz.prog 107 #[.agg x.enc.toArray] w fun e w'=>e = .returned (.int .i64 (schMay x))∧Fr N0 w w':=by
 have h1:=fun W=>r4Pred_any x.pred W
 unfold Sch.enc
 unfold schMay
 obtain⟨pb,hpb⟩:∃ b,predOk x.pred=b:=⟨_,rfl⟩
 simp only [hpb] at h1 ⊢
 have H1:=hhd h1
 clear h1 hpb
 cases pb
 ·go_enter Tryz.func107,Tryz.ntmps107
  go_wp2_with (go_at_call 103;refine(H1.out _).mono ?_;rintro e w1 ⟨rfl,rfl⟩)
  go_ret
  exact⟨rfl,(by repeat (first | exact Fr.refl _ _ | assumption | refine Fr.alloc ?_ _ | refine Fr.drew ?_ | refine Fr.drewN ?_ _ | refine Fr.setCell ?_ (.inr (by simp;try omega)) _))⟩
 ·obtain⟨sp,st,sl,se,sm,so,sr,sc⟩:=x
  simp only [schBad]
  go_enter Tryz.func107,Tryz.ntmps107
  go_wp2_with (go_at_call 103;refine(H1.out _).mono ?_;rintro e w1 ⟨rfl,rfl⟩)
  all_goals
   go_ret
   refine⟨ret_int ?_,(by repeat (first | exact Fr.refl _ _ | assumption | refine Fr.alloc ?_ _ | refine Fr.drew ?_ | refine Fr.drewN ?_ _ | refine Fr.setCell ?_ (.inr (by simp;try omega)) _))⟩
   simp_all <;> omega
theorem tSchema_any(x:Sch)(w:World):Calls Tryz.prog 91 #[.agg x.enc.toArray] w fun e w'=>e = .returned (.int .i64 (schMay x))∧Fr N0 w w':=by
 have h1:=fun W=>tPred_any x.pred W
 unfold Sch.enc
 unfold schMay
 obtain⟨pb,hpb⟩:∃ b,predOk x.pred=b:=⟨_,rfl⟩
 simp only [hpb] at h1 ⊢
 have H1:=hhd h1
 clear h1 hpb
 obtain⟨sp,st,sl,se,sm,so,sr,sc⟩:=x
 simp only [schBad]
 cases pb
 all_goals
  go_enter Tryz.func91,Tryz.ntmps91
  go_wp2_with (go_at_call 105;refine(H1.out _).mono ?_;rintro e w1 ⟨rfl,hf1⟩;have hB1:=boxS_keep hf1 (boxS_new w _ _);have m1:=hB1.1;have HB:=hhd hB1.2.2;clear hB1)
  all_goals
   go_ret
   refine⟨ret_int ?_,HB.out⟩
   simp_all <;> omega
noncomputable def tFits(s:Sch)(x:Wr):Int:=
 if firstNZ [schMay s,trMay x]≠0 then firstNZ [schMay s,trMay x] else if x.pred.toList≠s.pred.toList then 2 else if x.val.k≠s.ty then 42 else 0
theorem schMay_wf(s:Sch):(Lit.int .i64 (schMay s)).wf=true:=by
 unfold schMay;repeat' split
 all_goals decide
theorem trMay_wf(x:Wr):(Lit.int .i64 (trMay x)).wf=true:=by
 unfold trMay;repeat' split
 all_goals decide
abbrev BoxS2(W0:World)(B:Nat)(cs:Array Value)(C:Nat)(ds:Array Value)(W:World):Prop:=(∀ i,W.cell? ⟨B,i,none⟩=cs[i]?)∧(∀ i,W.cell? ⟨C,i,none⟩=ds[i]?)∧B < W.heap.size∧C < W.heap.size∧Fr N0 W0 W
theorem boxS2_keep{W0:World}{B C:Nat}{cs ds:Array Value}{W W':World}(hf:Fr N0 W W')(h:BoxS2 W0 B cs C ds W):BoxS2 W0 B cs C ds W':=
 ⟨fun i=>(cell_same (p:=⟨B,i,none⟩) (hf.at id h.2.2.1)).trans (h.1 i),fun i=>(cell_same (p:=⟨C,i,none⟩) (hf.at id h.2.2.2.1)).trans (h.2.1 i),Nat.lt_of_lt_of_le h.2.2.1 hf.size,Nat.lt_of_lt_of_le h.2.2.2.1 hf.size,h.2.2.2.2.then0 hf⟩
theorem boxS2_new(w:World)(cs ds:Array Value)(t u:TypeId):BoxS2 w w.heap.size cs (w.heap.size+1) ds ((w.alloc (.cells cs t)).alloc (.cells ds u)):=by
 have h1:=boxS_keep ((Fr.refl _ _).alloc (.cells ds u)) (boxS_new w cs t)
 have h2:=boxS_new (w.alloc (.cells cs t)) ds u
 rw[World.size_alloc] at h2
 exact⟨h1.1,h2.1,h1.2.1,h2.2.1,h1.2.2⟩
theorem tFits_any(s:Sch)(x:Wr)(hx:x.wf)(w:World):Calls Tryz.prog 145 #[.agg s.enc.toArray,.agg x.enc.toArray] w fun e w'=>e = .returned (.int .i64 (tFits s x))∧Fr N0 w w':=by
 have h1:=fun W=>tSchema_any s W
 have h2:=fun W=>tMay_any x hx W
 have hw1:=schMay_wf s;have hw2:=trMay_wf x
 unfold tFits
 obtain⟨e1,he1⟩:∃ e,schMay s=e:=⟨_,rfl⟩
 obtain⟨e2,he2⟩:∃ e,trMay x=e:=⟨_,rfl⟩
 simp only [he1] at h1 hw1 ⊢
 simp only [he2] at h2 hw2 ⊢
 have hcall:=fun W=>first_any _ _ _ _ (ints_two W e1 e2 hw1 hw2)
 obtain⟨e3,he3⟩:∃ e,firstNZ [e1,e2]=e:=⟨_,rfl⟩
 simp only [he3] at hcall ⊢
 unfold Sch.enc Wr.enc
 unfold Sch.enc at h1
 unfold Wr.tenc at h2
 have H1:=hhd h1;have H2:=hhd h2;have HC:=hhd hcall
 clear h1 h2 he1 he2 he3 hcall hw1 hw2 hx
 obtain⟨res,hres⟩:∃ r:Int,(if e3≠0 then e3 else if x.pred.toList≠s.pred.toList then 2 else if x.val.k≠s.ty then 42 else 0)=r:=⟨_,rfl⟩
 rw[hres]
 have HR:=hhd hres
 clear hres
 obtain⟨sp,st,sl,se,sm,so,sr,sc⟩:=s
 obtain⟨xd,xu,xp,vk,vb,vn,vs,vu⟩:=x
 go_enter Tryz.func145,Tryz.ntmps145
 go_wp2
 have hS:=boxS2_new w #[Value.string sp,Value.int .u8 st,Value.bool sl,Value.bool se,Value.bool sm,Value.bool so,Value.bool sr,Value.bool sc] #[Value.bool xd,Value.int .u64 xu,Value.string xp,Value.int .u8 vk,Value.bool vb,Value.int .i64 vn,Value.string vs,Value.int .u64 vu] 32 61
 obtain⟨W1,hW1⟩:∃ W,(w.alloc (.cells #[Value.string sp,Value.int .u8 st,Value.bool sl,Value.bool se,Value.bool sm,Value.bool so,Value.bool sr,Value.bool sc] 32)).alloc (.cells #[Value.bool xd,Value.int .u64 xu,Value.string xp,Value.int .u8 vk,Value.bool vb,Value.int .i64 vn,Value.string vs,Value.int .u64 vu] 61)=W:=⟨_,rfl⟩
 rw[hW1] at hS ⊢
 clear hW1
 go_region_held3 (BoxS2 w w.heap.size #[Value.string sp,Value.int .u8 st,Value.bool sl,Value.bool se,Value.bool sm,Value.bool so,Value.bool sr,Value.bool sc] (w.heap.size+1) #[Value.bool xd,Value.int .u64 xu,Value.string xp,Value.int .u8 vk,Value.bool vb,Value.int .i64 vn,Value.string vs,Value.int .u64 vu])
  (first | exact hS | exact boxS2_keep ((Fr.refl _ _).drew) hS | exact boxS2_keep hf6 (by assumption) | exact boxS2_keep ((Fr.refl _ _).alloc _) (by assumption) | assumption) (first
   |(go_at_call 91;go_loud (refine(H1.out _).mono ?_);rintro e w1 ⟨rfl,hf6⟩)
   |(go_at_call 115;go_loud (refine(H2.out _).mono ?_);rintro e w2 ⟨rfl,hf6⟩)
   |(go_at_call 182;go_loud (refine(HC.out _).mono ?_);rintro e w3 ⟨rfl,rfl⟩))
 go_wp2
 all_goals
  go_ret
  refine⟨ret_int ?_,by go_split_ands;assumption⟩
  have hres:=HR.out
  simp_all
end
section
structure Cm where
 time:Int
 writes:List Wr
structure PL where
 s:Sch
 marked:Int:=0
 times:List Int:=[]
 commits:List Cm:=[]
noncomputable def fitE(s:Sch)(x:Wr):Int:=
 if schMay s≠0 then schMay s else if trMay x≠0 then trMay x else if x.pred≠s.pred then 2 else if x.val.k≠s.ty then 42 else 0
def insBy{α:Type}(key:α→Int)(a:α):List α→List α
 | []=>[a]
 | x :: l=>if key a≤key x then a :: x :: l else x :: insBy key a l
def RisesBy{α:Type}(key:α→Int)(l:List α):Prop:=l.Pairwise fun x y=>key x < key y
theorem insBy_mem{α:Type}{key:α→Int}{a x:α}:∀ {l:List α},x ∈ insBy key a l↔x=a∨x ∈ l
 | []=>by simp [insBy]
 | y :: l=>by
  unfold insBy
  split
  ·simp
  ·rw[List.mem_cons,insBy_mem,List.mem_cons]
   constructor
   ·rintro(h | h | h) <;> simp [h]
   ·rintro(h | h | h) <;> simp [h]
theorem insBy_rises{α:Type}{key:α→Int}{a:α}:∀ {l:List α},RisesBy key l→(∀ x ∈ l,key x≠key a)→RisesBy key (insBy key a l)
 | [],_,_=>by simp [insBy,RisesBy]
 | y :: l,h,hn=>by
  obtain⟨h1,h2⟩:=List.pairwise_cons.1 h
  have hy:=hn y (by simp)
  unfold insBy
  split
  ·refine List.pairwise_cons.2 ⟨fun z hz=>?_,h⟩
   rcases List.mem_cons.1 hz with rfl | hz
   ·omega
   ·have:=h1 z hz;omega
  ·refine List.pairwise_cons.2 ⟨fun z hz=>?_,insBy_rises h2 fun x hx=>hn x (by simp [hx])⟩
   rcases insBy_mem.1 hz with rfl | hz
   ·omega
   ·exact h1 z hz
theorem rises_unique{α:Type}{key:α→Int}:∀ {l m:List α},RisesBy key l→RisesBy key m→(∀ x,x ∈ l↔x ∈ m)→l=m
 | [],[],_,_,_=>rfl
 | [],y :: m,_,_,h=>by have:=(h y).2 (by simp);cases this
 | x :: l,[],_,_,h=>by have:=(h x).1 (by simp);cases this
 | x :: l,y :: m,hl,hm,h=>by
  obtain⟨l1,l2⟩:=List.pairwise_cons.1 hl
  obtain⟨m1,m2⟩:=List.pairwise_cons.1 hm
  have e:x=y:=by
   rcases List.mem_cons.1 ((h x).1 (by simp)) with e | hx
   ·exact e
   ·rcases List.mem_cons.1 ((h y).2 (by simp)) with e | hy
    ·exact e.symm
    ·have:=l1 y hy;have:=m1 x hx;omega
  subst e
  congr 1
  refine rises_unique l2 m2 fun z=>⟨fun hz=>?_,fun hz=>?_⟩
  ·rcases List.mem_cons.1 ((h z).1 (by simp [hz])) with rfl | h'
   ·have:=l1 z hz;omega
   ·exact h'
  ·rcases List.mem_cons.1 ((h z).2 (by simp [hz])) with rfl | h'
   ·have:=m1 z hz;omega
   ·exact h'
structure PL.Ok(l:PL):Prop where
 times:RisesBy id l.times
 commits:RisesBy Cm.time l.commits
 among:∀ c ∈ l.commits,c.time ∈ l.times
noncomputable def addErr(l:PL)(c:Cm):Int:=
 if c.time=0∨c.writes = []∨256 < c.writes.length then 180
 else if firstNZ (c.writes.map (fitE l.s))≠0 then firstNZ (c.writes.map (fitE l.s))
 else if c.time≤l.marked then 181 else if c.time ∈ l.times then 202 else 0
def addIn(l:PL)(c:Cm):PL:={ l with times:=insBy id c.time l.times,commits:=insBy Cm.time c l.commits }
noncomputable def addPL(l:PL)(c:Cm):PL × Int:=if addErr l c=0 then (addIn l c,0) else (l,addErr l c)
theorem addErr_new{l:PL}{c:Cm}(h:addErr l c=0):c.time ∉ l.times:=by
 unfold addErr at h
 split at h
 ·simp at h
 ·split at h
  ·rename_i h1 h2;exact absurd h h2
  ·split at h
   ·simp at h
   ·split at h
    ·simp at h
    ·assumption
theorem addIn_ok{l:PL}{c:Cm}(h:l.Ok)(hc:c.time ∉ l.times):(addIn l c).Ok where
 times:=insBy_rises h.times fun x hx e=>hc (by rw[show x=c.time from e] at hx;exact hx)
 commits:=insBy_rises h.commits fun x hx e=>hc (e ▸ h.among x hx)
 among:=fun x hx=>insBy_mem.2 ((insBy_mem.1 hx).elim (fun e=>.inl (e ▸ rfl)) fun hx=>.inr (h.among x hx))
section
variable (preds:List Wr→List ByteArray)
inductive Kd where
 | nop
 | abort
 | commit (w:List Wr)
end
end
section
open Go.RowKit Go.Shelf
attribute [local go_sem] Oper.semAt_some
def posI{α:Type}(key:α→Int)(t:Int)(l:List α):Nat:=(l.takeWhile fun x=>decide (key x < t)).length
theorem posI_le{α:Type}(key:α→Int)(t:Int)(l:List α):posI key t l≤l.length:=by
 unfold posI
 induction l with
 | nil=>simp
 | cons x l ih=>rw[List.takeWhile_cons];split <;> simp <;> omega
theorem posI_at{α:Type}{key:α→Int}{t:Int}:∀ {l:List α} {i:Nat},i≤l.length→(∀ k (h:k < l.length),k < i→key l[k] < t)→(∀ k (h:k < l.length),i≤k→t≤key l[k])→posI key t l=i
 | [],i,hi,_,_=>by simp at hi;subst hi;rfl
 | x :: l,0,_,_,h2=>by
  have:=h2 0 (by simp) (by omega)
  simp only [List.getElem_cons_zero] at this
  unfold posI
  rw[List.takeWhile_cons,if_neg (by simp;omega)];rfl
 | x :: l,i+1,hi,h1,h2=>by
  have h0:=h1 0 (by simp) (by omega)
  simp only [List.getElem_cons_zero] at h0
  have ih:=posI_at (key:=key) (t:=t) (l:=l) (i:=i) (by simp at hi;omega) (fun k hk hki=>by have:=h1 (k+1) (by simp;omega) (by omega);simpa using this) (fun k hk hki=>by have:=h2 (k+1) (by simp;omega) (by omega);simpa using this)
  unfold posI at ih ⊢
  rw[List.takeWhile_cons,if_pos (by simpa using h0),List.length_cons,ih]
theorem insBy_at{α:Type}(key:α→Int)(a:α):∀ l:List α,insBy key a l=l.take (posI key (key a) l) ++ a :: l.drop (posI key (key a) l)
 | []=>rfl
 | x :: l=>by
  unfold insBy
  by_cases h:key a≤key x
  ·rw[if_pos h]
   have:posI key (key a) (x :: l)=0:=by unfold posI;rw[List.takeWhile_cons,if_neg (by simp;omega)];rfl
   rw[this];rfl
  ·rw[if_neg h,insBy_at key a l]
   have:posI key (key a) (x :: l)=posI key (key a) l+1:=by unfold posI;rw[List.takeWhile_cons,if_pos (by simp;omega),List.length_cons]
   rw[this];simp
theorem pos_found{α:Type}{key:α→Int}{t:Int}{l:List α}{i:Nat}(hi:i < l.length)(h1:∀ k (h:k < l.length),k < i→key l[k] < t)(h2:∀ k (h:k < l.length),i≤k→t≤key l[k])(hs:l.Pairwise fun x y=>key x≤key y):(∃ x ∈ l,key x=t)↔key l[i]=t:=by
 constructor
 ·rintro⟨x,hx,hk⟩
  obtain⟨j,hj,rfl⟩:=List.mem_iff_getElem.1 hx
  have h3:=h2 i hi (Nat.le_refl _)
  by_cases hji:j < i
  ·have:=h1 j hj hji;omega
  ·by_cases e:j=i
   ·subst e;exact hk
   ·have:=List.pairwise_iff_getElem.1 hs i j hi hj (by omega)
    omega
 ·intro h;exact⟨_,List.getElem_mem hi,h⟩
theorem isNaN4_any(x:Int)(w:World):Calls Tryz.prog 192 #[.int .u64 x] w fun e w'=>e = .returned (.bool false)∧w'=w:=by
 go_enter Tryz.func192,Tryz.ntmps192
 go_wp2
 go_ret
 exact⟨rfl,rfl⟩
theorem sNaN4_any(x:Int)(w:World):Calls Tryz.prog 132 #[.int .u64 x] w fun e w'=>e = .returned (.bool false)∧w'=w:=by
 go_enter Tryz.func132,Tryz.ntmps132
 go_wp2
 go_ret
 exact⟨rfl,rfl⟩
theorem less4_any(x y:Int)(w:World):Calls Tryz.prog 131 #[.int .u64 x,.int .u64 y] w fun e w'=>e = .returned (.bool (decide (x < y)))∧w'=w:=by
 go_enter Tryz.func131,Tryz.ntmps131
 go_wp2_with (go_at_call 192;refine(isNaN4_any _ _).mono ?_;rintro e w' ⟨rfl,rfl⟩)
 go_ret
 exact⟨by simp,rfl⟩
theorem bs_any(w:World)(b:Nat)(v:Value)(xs:List Int)(h:Ints .u64 w b v xs)(t:Int)(hs:xs.Pairwise (·≤·))(hl:xs.length≤17592186044416) :
  Calls Tryz.prog 73 #[v,.int .u64 t] w fun e w'=>e = .returned (.tuple #[.int .i64 (posI id t xs),.bool (decide (t ∈ xs))])∧Fr N0 w w':=by
 obtain⟨a,off,cap,rfl,h1,h2,h3,-,h5,-⟩:=h
 have HC:=hhd h5
 have HS:=hhd hs
 obtain⟨P,hP⟩:∃ P:Nat × Bool,(posI id t xs,decide (t ∈ xs))=P:=⟨_,rfl⟩
 have hPe:∀ i,i≤xs.length→(∀ k (h:k < xs.length),k < i→xs[k] < t)→(∀ k (h:k < xs.length),i≤k→t≤xs[k])→P.1=i∧(∀ hi:i < xs.length,P.2=decide (xs[i]=t))∧(¬ i < xs.length→P.2=false):=fun i hi g1 g2=>by
  have hp:=posI_at (key:=id) hi g1 g2
  have e1:=(congrArg Prod.fst hP).symm
  have e2:=(congrArg Prod.snd hP).symm
  simp only at e1 e2
  refine⟨e1.trans hp,fun hi'=>?_,fun hn=>?_⟩
  ·rw[e2]
   have:=pos_found (key:=id) (t:=t) hi' g1 g2 hs
   simp only [id] at this
   rw[Bool.eq_iff_iff,decide_eq_true_eq,decide_eq_true_eq,← this]
   exact⟨fun h=>⟨t,h,rfl⟩,fun⟨x,hx,e⟩=>e ▸ hx⟩
  ·rw[e2,decide_eq_false_iff_not]
   intro hm
   obtain⟨j,hj,rfl⟩:=List.mem_iff_getElem.1 hm
   have:=g1 j hj (by omega)
   omega
 have HP:=hhd hPe
 show Calls _ _ _ _ fun e w'=>e = .returned (.tuple #[.int .i64 ((posI id t xs,decide (t ∈ xs)).1:Nat),.bool (posI id t xs,decide (t ∈ xs)).2])∧Fr N0 w w'
 rw[hP]
 obtain⟨p1,p2⟩:=P
 simp only at HP ⊢
 clear h5 hs hP hPe
 go_enter Tryz.func73,Tryz.ntmps73
 go_wp2
 go_loopw [7,8] (fun si sj wr=>∃ (i j:Nat),i≤j∧j≤xs.length∧si = .int .i64 i∧sj = .int .i64 j∧(∀ k (h:k < xs.length),k < i→xs[k] < t)∧(∀ k (h:k < xs.length),j≤k→t≤xs[k])∧Fr N0 w wr) (fun si sj _=>(intOf sj).toNat - (intOf si).toNat)
 case atStart=>exact⟨0,xs.length,Nat.zero_le _,Nat.le_refl _,by go_num,rfl,fun _ _ h=>absurd h (by omega),fun _ h h'=>absurd h (by omega),Fr.refl _ _⟩
 case round=>
  obtain⟨i,j,hij,hjn,rfl,rfl,hlo,hhi,hfr⟩:=hrel
  by_cases hlt:i < j
  ·obtain rfl:=h3 (by omega)
   have hh1:(i+j) / 2 < xs.length:=by omega
   have e0:=hfr.cell (fun h=>h) (HC.out _ hh1)
   obtain⟨f,hf⟩:∃ f,xs[(i+j) / 2]=f:=⟨_,rfl⟩
   rw[hf] at e0
   have hlo':f < t→∀ k (h:k < xs.length),k < (i+j) / 2+1→xs[k] < t:=fun hft k hk hki=>by
    by_cases e:k=(i+j) / 2
    ·subst e;rw[hf];exact hft
    ·have:=List.pairwise_iff_getElem.1 HS.out k ((i+j) / 2) hk hh1 (by omega);rw[hf] at this;omega
   have hhi':¬ f < t→∀ k (h:k < xs.length),(i+j) / 2≤k→t≤xs[k]:=fun hft k hk hki=>by
    by_cases e:k=(i+j) / 2
    ·subst e;rw[hf];omega
    ·have:=List.pairwise_iff_getElem.1 HS.out ((i+j) / 2) k hh1 hk (by omega);rw[hf] at this;omega
   have HLO:=hhd hlo;have HHI:=hhd hhi;have HLO':=hhd hlo';have HHI':=hhd hhi';have HFR:=hhd hfr
   clear hlo hhi hlo' hhi' hf hfr
   have i1:(0:Int)≤((i:Int)+(j:Int)) / 2:=by omega
   have i2:((i:Int)+(j:Int)) / 2 < (xs.length:Int):=by omega
   have i3:((i:Int)+(j:Int)) / 2 < (j:Int):=by omega
   by_cases hft:f < t
   ·go_wp2_with (go_at_call 131;refine(less4_any _ _ _).mono ?_;rintro e w1 ⟨rfl,rfl⟩)
    go_roundw
    case rel=>exact⟨(i+j) / 2+1,j,by omega,hjn,by go_num,rfl,HLO'.out hft,HHI.out,HFR.out⟩
    case measure=>simp [intOf];omega
   ·go_wp2_with (go_at_call 131;refine(less4_any _ _ _).mono ?_;rintro e w1 ⟨rfl,rfl⟩)
    go_roundw
    case rel=>exact⟨i,(i+j) / 2,by omega,by omega,rfl,by go_num,HLO.out,HHI'.out hft,HFR.out⟩
    case measure=>simp [intOf];omega
  ·obtain rfl:i=j:=by omega
   obtain⟨he,hp2,hp2'⟩:=HP.out i hjn hlo hhi
   subst he
   have HFR:=hhd hfr
   clear hlo hhi HP
   by_cases hin:p1 < xs.length
   ·obtain rfl:=h3 (by omega)
    have e0:=hfr.cell (fun h=>h) (HC.out _ hin)
    have hp:=hp2 hin
    obtain⟨f,hf⟩:∃ f,xs[p1]=f:=⟨_,rfl⟩
    rw[hf] at e0 hp
    subst hp
    have i2:(p1:Int) < (xs.length:Int):=by omega
    clear hf hp2 hp2' hfr
    by_cases hft:f=t
    ·subst hft
     go_wp2_with (go_at_call 132;refine(sNaN4_any _ _).mono ?_;rintro e w1 ⟨rfl,rfl⟩)
     go_ret2
     exact⟨by simp,HFR.out⟩
    ·go_wp2_with (go_at_call 132;refine(sNaN4_any _ _).mono ?_;rintro e w1 ⟨rfl,rfl⟩)
     go_ret2
     exact⟨by simp [hft],HFR.out⟩
   ·have hp:=hp2' hin
    subst hp
    have i2:¬(p1:Int) < (xs.length:Int):=by omega
    clear hp2 hp2' hfr
    go_wp2
    go_ret2
    exact⟨rfl,HFR.out⟩
end
end Go.Proofs.YtefepfiijoafbaaGreat
