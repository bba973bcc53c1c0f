/- CmpV BoxB CmpW CmpX VOrd VOrd2 VOrd3 -/
import Derived.Deep.RegionHeld3
import Derived.Deep.DrawnRows
import Derived.Test.YtefepfiijoafbaaGreatQEq4
import Derived.Test.YtefepfiijoafbaaGreatQBS
import Derived.Test.YtefepfiijoafbaaGreatQValR
import Derived.Test.YtefepfiijoafbaaGreatQDelW
set_option linter.unusedVariables false
set_option linter.unusedSimpArgs false
set_option maxRecDepth 100000
set_option maxHeartbeats 4000000
namespace Go.Proofs.YtefepfiijoafbaaGreat
section
open Go.RowKit Go.Shelf
attribute [local go_sem] Oper.semAt_some
theorem naK_any(x:Int)(w:World):Calls Tryz.prog 273 #[.int .u8 x] w fun e w'=>e = .returned (.bool false)∧w'=w:=by
 go_enter Tryz.func273,Tryz.ntmps273
 go_wp2
 go_ret
 exact⟨rfl,rfl⟩
theorem cmpK_any(a b:Int)(w:World):Calls Tryz.prog 267 #[.int .u8 a,.int .u8 b] w fun e w'=>e = .returned (.int .i64 (cmpI a b))∧w'=w:=by
 by_cases h1:a < b
 ·rw[show cmpI a b = -1 by simp [cmpI,h1]]
  go_enter Tryz.func267,Tryz.ntmps267
  go_wp2_with (go_at_call 273;refine(naK_any _ _).mono ?_;rintro e w1 ⟨rfl,rfl⟩)
  go_ret
  exact⟨rfl,rfl⟩
 ·by_cases h2:b < a
  ·rw[show cmpI a b=1 by simp [cmpI,h1,h2]]
   go_enter Tryz.func267,Tryz.ntmps267
   go_wp2_with (go_at_call 273;refine(naK_any _ _).mono ?_;rintro e w1 ⟨rfl,rfl⟩)
   go_ret
   exact⟨rfl,rfl⟩
  ·rw[show cmpI a b=0 by simp [cmpI,h1,h2]]
   go_enter Tryz.func267,Tryz.ntmps267
   go_wp2_with (go_at_call 273;refine(naK_any _ _).mono ?_;rintro e w1 ⟨rfl,rfl⟩)
   go_ret
   exact⟨rfl,rfl⟩
theorem naIn_any(x:Int)(w:World):Calls Tryz.prog 274 #[.int .i64 x] w fun e w'=>e = .returned (.bool false)∧w'=w:=by
 go_enter Tryz.func274,Tryz.ntmps274
 go_wp2
 go_ret
 exact⟨rfl,rfl⟩
theorem cmpIn_any(a b:Int)(w:World):Calls Tryz.prog 268 #[.int .i64 a,.int .i64 b] w fun e w'=>e = .returned (.int .i64 (cmpI a b))∧w'=w:=by
 by_cases h1:a < b
 ·rw[show cmpI a b = -1 by simp [cmpI,h1]]
  go_enter Tryz.func268,Tryz.ntmps268
  go_wp2_with (go_at_call 274;refine(naIn_any _ _).mono ?_;rintro e w1 ⟨rfl,rfl⟩)
  go_ret
  exact⟨rfl,rfl⟩
 ·by_cases h2:b < a
  ·rw[show cmpI a b=1 by simp [cmpI,h1,h2]]
   go_enter Tryz.func268,Tryz.ntmps268
   go_wp2_with (go_at_call 274;refine(naIn_any _ _).mono ?_;rintro e w1 ⟨rfl,rfl⟩)
   go_ret
   exact⟨rfl,rfl⟩
  ·rw[show cmpI a b=0 by simp [cmpI,h1,h2]]
   go_enter Tryz.func268,Tryz.ntmps268
   go_wp2_with (go_at_call 274;refine(naIn_any _ _).mono ?_;rintro e w1 ⟨rfl,rfl⟩)
   go_ret
   exact⟨rfl,rfl⟩
theorem naI64_any(x:Int)(w:World):Calls Tryz.prog 275 #[.int .i64 x] w fun e w'=>e = .returned (.bool false)∧w'=w:=by
 go_enter Tryz.func275,Tryz.ntmps275
 go_wp2
 go_ret
 exact⟨rfl,rfl⟩
theorem cmpI64_any(a b:Int)(w:World):Calls Tryz.prog 270 #[.int .i64 a,.int .i64 b] w fun e w'=>e = .returned (.int .i64 (cmpI a b))∧w'=w:=by
 by_cases h1:a < b
 ·rw[show cmpI a b = -1 by simp [cmpI,h1]]
  go_enter Tryz.func270,Tryz.ntmps270
  go_wp2_with (go_at_call 275;refine(naI64_any _ _).mono ?_;rintro e w1 ⟨rfl,rfl⟩)
  go_ret
  exact⟨rfl,rfl⟩
 ·by_cases h2:b < a
  ·rw[show cmpI a b=1 by simp [cmpI,h1,h2]]
   go_enter Tryz.func270,Tryz.ntmps270
   go_wp2_with (go_at_call 275;refine(naI64_any _ _).mono ?_;rintro e w1 ⟨rfl,rfl⟩)
   go_ret
   exact⟨rfl,rfl⟩
  ·rw[show cmpI a b=0 by simp [cmpI,h1,h2]]
   go_enter Tryz.func270,Tryz.ntmps270
   go_wp2_with (go_at_call 275;refine(naI64_any _ _).mono ?_;rintro e w1 ⟨rfl,rfl⟩)
   go_ret
   exact⟨rfl,rfl⟩
theorem naS_any(x:ByteArray)(w:World):Calls Tryz.prog 259 #[.string x] w fun e w'=>e = .returned (.bool false)∧w'=w:=by
 go_enter Tryz.func259,Tryz.ntmps259
 go_wp2
 go_ret
 exact⟨by simp,rfl⟩
def cmpS(a b:ByteArray):Int:=if Op.bytesLess a.toList b.toList then -1 else if a.toList == b.toList then 0 else 1
theorem cmpS_any(a b:ByteArray)(w:World):Calls Tryz.prog 271 #[.string a,.string b] w fun e w'=>e = .returned (.int .i64 (cmpS a b))∧w'=w:=by
 cases h1:Op.bytesLess a.toList b.toList with
 | true=>
  rw[show cmpS a b = -1 by simp [cmpS,h1]]
  go_enter Tryz.func271,Tryz.ntmps271
  go_wp2_with (go_at_call 259;refine(naS_any _ _).mono ?_;rintro e w1 ⟨rfl,rfl⟩)
  go_ret
  exact⟨rfl,rfl⟩
 | false=>
  cases h2:(a.toList == b.toList) with
  | true=>
   rw[show cmpS a b=0 by simp [cmpS,h1,h2]]
   go_enter Tryz.func271,Tryz.ntmps271
   go_wp2_with (go_at_call 259;refine(naS_any _ _).mono ?_;rintro e w1 ⟨rfl,rfl⟩)
   go_ret
   exact⟨rfl,rfl⟩
  | false=>
   rw[show cmpS a b=1 by simp [cmpS,h1,h2]]
   go_enter Tryz.func271,Tryz.ntmps271
   go_wp2_with (go_at_call 259;refine(naS_any _ _).mono ?_;rintro e w1 ⟨rfl,rfl⟩)
   go_ret
   exact⟨rfl,rfl⟩
def vcmp(a b:Val):Int:=firstNZ [cmpI a.k b.k,cmpI (if a.b then 1 else 0) (if b.b then 1 else 0),cmpI a.n b.n,cmpS a.s b.s,cmpI a.u b.u]
theorem orIn_any(w:World)(b:Nat)(v:Value)(xs:List Int)(h:Ints .i64 w b v xs):Calls Tryz.prog 266 #[v] w fun e w'=>e = .returned (.int .i64 (firstNZ xs))∧w'=w:=by
 obtain⟨a,off,cap,rfl,h1,h2,h3,h4,h5,h6⟩:=h
 have HC:=hhd h5;clear h5 h6 h4
 go_enter Tryz.func266,Tryz.ntmps266
 go_wp2
 go_loop [8] (fun i=>∃ k:Nat,k≤xs.length∧i = .int .i64 k∧Hid (firstNZ xs=firstNZ (xs.drop k))) (fun i=>xs.length - (intOf i).toNat)
 case atStart=>exact⟨0,Nat.zero_le _,rfl,rfl⟩
 case round=>
  obtain⟨k,hk,rfl,hn⟩:=hrel
  by_cases hlt:k < xs.length
  ·obtain rfl:=h3 (by omega)
   have hck:=HC.out k hlt
   have hd:firstNZ (xs.drop k)=if xs[k]=0 then firstNZ (xs.drop (k+1)) else xs[k]:=by
    rw[List.drop_eq_getElem_cons hlt,firstNZ]
   obtain⟨x,hx⟩:∃ x,xs[k]=x:=⟨_,rfl⟩
   rw[hx] at hck hd
   have hlt':(k:Int) < (xs.length:Int):=by omega
   have hn':=hn.out.trans hd
   clear hn hd hx
   by_cases hx0:x=0
   ·subst hx0
    rw[if_pos rfl] at hn'
    have HN:=hhd hn'
    clear hn'
    go_wp2
    go_round
    case rel=>exact⟨k+1,by omega,by go_num,HN.out⟩
    case measure=>simp [intOf];omega
   ·rw[if_neg hx0] at hn'
    have HN:=hhd hn'
    have hx1:(x != 0)=true:=by simpa using hx0
    clear hn'
    go_wp2
    go_ret
    exact⟨ret_int HN.out.symm,rfl⟩
  ·obtain rfl:k=xs.length:=by omega
   have hn':=hn.out
   rw[List.drop_of_length_le (Nat.le_refl _)] at hn'
   have HN:=hhd hn'
   clear hn hn'
   go_wp2
   go_ret
   exact⟨ret_int HN.out.symm,rfl⟩
theorem vTruth_any(b:Bool)(w:World):Calls Tryz.prog 269 #[.bool b] w fun e w'=>e = .returned (.int .i64 (if b then 1 else 0))∧w'=w:=by
 cases b <;>
 ·go_enter Tryz.func269,Tryz.ntmps269
  go_wp2
  go_ret
  exact⟨rfl,rfl⟩
theorem cmpI_wf(a b:Int):(Lit.int .i64 (cmpI a b)).wf=true:=by
 unfold cmpI
 split
 ·rfl
 ·split <;> rfl
theorem cmpS_wf(a b:ByteArray):(Lit.int .i64 (cmpS a b)).wf=true:=by
 unfold cmpS
 split
 ·rfl
 ·split <;> rfl
theorem ints_five(W:World)(x1 x2 x3 x4 x5:Int)(h1:(Lit.int .i64 x1).wf=true)(h2:(Lit.int .i64 x2).wf=true)(h3:(Lit.int .i64 x3).wf=true)(h4:(Lit.int .i64 x4).wf=true)(h5:(Lit.int .i64 x5).wf=true)(t:TypeId) :
  Ints .i64 (W.alloc (.cells #[.int .i64 x1,.int .i64 x2,.int .i64 x3,.int .i64 x4,.int .i64 x5] t)) W.heap.size (.slice (some ⟨W.heap.size,0,none⟩) 5 5) [x1,x2,x3,x4,x5]:=by
 have hc:=World.alloc_heap_new W (.cells #[.int .i64 x1,.int .i64 x2,.int .i64 x3,.int .i64 x4,.int .i64 x5] t)
 refine⟨some ⟨W.heap.size,0,none⟩,0,5,rfl,by simp,by omega,fun _=>rfl,by simp,fun i hi=>?_,by simp [h1,h2,h3,h4,h5]⟩
 match i,hi with
 | 0,_=>simp only [World.cell?,Nat.zero_add,hc];rfl
 | 1,_=>simp only [World.cell?,Nat.zero_add,hc];rfl
 | 2,_=>simp only [World.cell?,Nat.zero_add,hc];rfl
 | 3,_=>simp only [World.cell?,Nat.zero_add,hc];rfl
 | 4,_=>simp only [World.cell?,Nat.zero_add,hc];rfl
end
section
open Go.RowKit Go.Shelf Go.Maps
abbrev BoxB(B:Nat)(cs:Array Value)(W:World):Prop:=(∀ i,W.cell? ⟨B,i,none⟩=cs[i]?)∧B < W.heap.size
theorem boxB_keep{T:Nat→Prop}{B:Nat}{cs:Array Value}{W W':World}(hf:Fr T W W')(hT:¬ T B)(h:BoxB B cs W):BoxB B cs W':=
 ⟨fun i=>(cell_same (p:=⟨B,i,none⟩) (hf.at hT h.2)).trans (h.1 i),Nat.lt_of_lt_of_le h.2 hf.size⟩
end
section
open Go.RowKit Go.Shelf Go.Maps
attribute [local go_sem] Oper.semAt_some
attribute [local go_sem ↓] Go.wp_at_zero Go.wp_at_succ
abbrev BoxV2(b1 b2:Nat)(c1 c2:Array Value)(W:World):Prop:=BoxB b1 c1 W∧BoxB b2 c2 W
theorem boxV2_slice{b1 b2:Nat}{c1 c2:Array Value}{W:World}(h:BoxV2 b1 b2 c1 c2 W.drew)(o:Obj):BoxV2 b1 b2 c1 c2 (W.alloc o).drew:=
 have hf:Fr N0 W.drew (W.alloc o).drew:=(Fr.refl N0 W.drew).alloc o
 ⟨boxB_keep hf id h.1,boxB_keep hf id h.2⟩
theorem boxB_new{b:Nat}{cs:Array Value}{t:TypeId}{W:World}(h:W.heap[b]?=some (.cells cs t (0,0))):BoxB b cs W:=⟨(box_cells h).1,lt_of_block h⟩
theorem orFive_any(X:World)(x1 x2 x3 x4 x5:Int)(h:∀ W:World,Ints .i64 (W.alloc (.cells #[.int .i64 x1,.int .i64 x2,.int .i64 x3,.int .i64 x4,.int .i64 x5] 3)) W.heap.size (.slice (some ⟨W.heap.size,0,none⟩) 5 5) [x1,x2,x3,x4,x5]) :
  Calls Tryz.prog 266 #[.slice (some ⟨X.heap.size,0,none⟩) 5 5] (X.alloc (.cells #[.int .i64 x1,.int .i64 x2,.int .i64 x3,.int .i64 x4,.int .i64 x5] 3)).drew fun e w'=>e = .returned (.int .i64 (firstNZ [x1,x2,x3,x4,x5]))∧w'=(X.alloc (.cells #[.int .i64 x1,.int .i64 x2,.int .i64 x3,.int .i64 x4,.int .i64 x5] 3)).drew:=
 orIn_any _ _ _ _ (h X.drew)
theorem vCompare_any(a b:Val)(w:World):Calls Tryz.prog 262 #[.agg a.enc.toArray,.agg b.enc.toArray] w fun e w'=>e = .returned (.int .i64 (vcmp a b))∧Fr N0 w w':=by
 obtain⟨k,t,n,s,u⟩:=a
 obtain⟨k',t',n',s',u'⟩:=b
 have c1:=fun W=>cmpK_any k k' W
 have c2:=fun W=>cmpIn_any (if t then 1 else 0) (if t' then 1 else 0) W
 have c3:=fun W=>cmpI64_any n n' W
 have c4:=fun W=>cmpS_any s s' W
 have c5:=fun W=>cmp4_any u u' W
 have t1:=fun W=>vTruth_any t W
 have t2:=fun W=>vTruth_any t' W
 have i5:=fun W=>ints_five W _ _ _ _ _ (cmpI_wf k k') (cmpI_wf (if t then 1 else 0) (if t' then 1 else 0)) (cmpI_wf n n') (cmpS_wf s s') (cmpI_wf u u') 3
 have hv:vcmp ⟨k,t,n,s,u⟩ ⟨k',t',n',s',u'⟩=firstNZ [cmpI k k',cmpI (if t then 1 else 0) (if t' then 1 else 0),cmpI n n',cmpS s s',cmpI u u']:=rfl
 rw[hv]
 clear hv
 generalize cmpI k k'=x1 at c1 i5 ⊢
 generalize (if t then (1:Int) else 0)=y1 at c2 t1 i5 ⊢
 generalize (if t' then (1:Int) else 0)=y2 at c2 t2 i5 ⊢
 generalize cmpI y1 y2=x2 at c2 i5 ⊢
 generalize cmpI n n'=x3 at c3 i5 ⊢
 generalize cmpS s s'=x4 at c4 i5 ⊢
 generalize cmpI u u'=x5 at c5 i5 ⊢
 have H5:=orFive_any ((w.alloc (.cells #[.int .u8 k,.bool t,.int .i64 n,.string s,.int .u64 u] 57)).alloc (.cells #[.int .u8 k',.bool t',.int .i64 n',.string s',.int .u64 u'] 57)) x1 x2 x3 x4 x5 i5
 simp only [World.size_alloc] at H5
 obtain⟨r,hr⟩:∃ r,firstNZ [x1,x2,x3,x4,x5]=r:=⟨_,rfl⟩
 simp only [hr] at H5 ⊢
 clear i5 hr
 have C1:=hhd c1;have C2:=hhd c2;have C3:=hhd c3;have C4:=hhd c4;have C5:=hhd c5;have T1:=hhd t1;have T2:=hhd t2;have HH:=hhd H5
 clear c1 c2 c3 c4 c5 t1 t2 H5
 unfold Val.enc
 go_enter Tryz.func262,Tryz.ntmps262
 go_wp2_with fail
 have HB:BoxV2 w.heap.size (w.heap.size+1) #[.int .u8 k,.bool t,.int .i64 n,.string s,.int .u64 u] #[.int .u8 k',.bool t',.int .i64 n',.string s',.int .u64 u'] ((w.alloc (.cells #[.int .u8 k,.bool t,.int .i64 n,.string s,.int .u64 u] 57)).alloc (.cells #[.int .u8 k',.bool t',.int .i64 n',.string s',.int .u64 u'] 57)).drew:=by
  have h1:=boxB_new (World.alloc_heap_new w (.cells #[.int .u8 k,.bool t,.int .i64 n,.string s,.int .u64 u] 57))
  have h2:=boxB_new (World.alloc_heap_new (w.alloc (.cells #[.int .u8 k,.bool t,.int .i64 n,.string s,.int .u64 u] 57)) (.cells #[.int .u8 k',.bool t',.int .i64 n',.string s',.int .u64 u'] 57))
  rw[World.size_alloc] at h2
  exact⟨boxB_keep (T:=N0) ((Fr.refl _ _).alloc _).drew id h1,boxB_keep (T:=N0) (Fr.refl _ _).drew id h2⟩
 have HBX:=hhd HB
 clear HB
 go_region_held3 (BoxV2 w.heap.size (w.heap.size+1) #[.int .u8 k,.bool t,.int .i64 n,.string s,.int .u64 u] #[.int .u8 k',.bool t',.int .i64 n',.string s',.int .u64 u']) (first
  |(with_reducible assumption)
  |(with_reducible exact HBX.out)
  |(with_reducible exact boxV2_slice HBX.out _)
  | fail) (first
  |(go_simp;go_at_call 267;refine(C1.out _).mono ?_;rintro e w3 ⟨rfl,rfl⟩)
  |(go_simp;go_at_call 270;refine(C3.out _).mono ?_;rintro e w3 ⟨rfl,rfl⟩)
  |(go_simp;go_at_call 271;refine(C4.out _).mono ?_;rintro e w3 ⟨rfl,rfl⟩)
  |(go_simp;go_at_call 148;refine(C5.out _).mono ?_;rintro e w3 ⟨rfl,rfl⟩)
  |(go_simp;go_at_call 269;refine(T1.out _).mono ?_;rintro e w3 ⟨rfl,rfl⟩)
  |(go_simp;go_at_call 269;refine(T2.out _).mono ?_;rintro e w3 ⟨rfl,rfl⟩)
  |(go_simp;go_at_call 268;refine(C2.out _).mono ?_;rintro e w3 ⟨rfl,rfl⟩)
  |(go_simp;go_at_call 266;refine HH.out.mono ?_;rintro e w3 ⟨rfl,rfl⟩)
  | fail)
 all_goals
  rename_i Kx hKx hS
  refine hKx _ _ ?_
  go_wp2
  go_ret
  exact⟨rfl,((((Fr.refl N0 w).alloc _).alloc _).alloc _).drew⟩
theorem boxV2_fr{b1 b2:Nat}{c1 c2:Array Value}{W W':World}(h:BoxV2 b1 b2 c1 c2 W)(hf:Fr N0 W W'):BoxV2 b1 b2 c1 c2 W':=⟨boxB_keep hf id h.1,boxB_keep hf id h.2⟩
theorem boxV2_new(w:World)(c1 c2:Array Value)(t:TypeId):BoxV2 w.heap.size (w.heap.size+1) c1 c2 ((w.alloc (.cells c1 t)).alloc (.cells c2 t)):=by
 have h1:=boxB_new (World.alloc_heap_new w (.cells c1 t))
 have h2:=boxB_new (World.alloc_heap_new (w.alloc (.cells c1 t)) (.cells c2 t))
 rw[World.size_alloc] at h2
 exact⟨boxB_keep (T:=N0) ((Fr.refl _ _).alloc _) id h1,h2⟩
def vCmpR(a b:Val):Int × Int:=if valMay a=true∧valMay b=true then (vcmp a b,0) else (0,30)
theorem vCmp_any(a b:Val)(ha:0≤a.u)(hb:0≤b.u)(w:World):Calls Tryz.prog 245 #[.agg a.enc.toArray,.agg b.enc.toArray] w fun e w'=>e = .returned (.tuple #[.int .i64 (vCmpR a b).1,.int .i64 (vCmpR a b).2])∧Fr N0 w w':=by
 have m1:=fun W=>vMay_any a ha W
 have m2:=fun W=>vMay_any b hb W
 have cc:=fun W=>vCompare_any a b W
 unfold vCmpR
 obtain⟨x,hx⟩:∃ x,valMay a=x:=⟨_,rfl⟩
 obtain⟨y,hy⟩:∃ x,valMay b=x:=⟨_,rfl⟩
 obtain⟨r,hr⟩:∃ x,vcmp a b=x:=⟨_,rfl⟩
 rw[hr] at cc
 simp only [hx,hy,hr] at m1 m2 ⊢
 clear hx hy hr
 unfold Val.enc at *
 cases x with
 | false=>
  simp only [Bool.false_eq_true,if_false,false_and] at m1 ⊢
  have M1:=hhd m1
  clear m1 m2 cc
  go_enter Tryz.func245,Tryz.ntmps245
  go_wp2_with fail
  refine(M1.out _).mono ?_
  rintro e w1 ⟨rfl,hf1⟩
  have hf:=((Fr.refl N0 w).alloc _ |>.alloc _).then0 hf1
  have HF:=hhd hf
  clear hf hf1
  go_wp2_with fail
  go_ret2
  exact⟨rfl,HF.out⟩
 | true=>
  simp only [true_and,if_true] at m1 ⊢
  have M1:=hhd m1;have M2:=hhd m2;have CC:=hhd cc
  clear m1 m2 cc
  go_enter Tryz.func245,Tryz.ntmps245
  go_wp2_with fail
  refine(M1.out _).mono ?_
  rintro e w1 ⟨rfl,hf1⟩
  have hbx:=boxV2_fr (boxV2_new w #[.int .u8 a.k,.bool a.b,.int .i64 a.n,.string a.s,.int .u64 a.u] #[.int .u8 b.k,.bool b.b,.int .i64 b.n,.string b.s,.int .u64 b.u] 57) hf1
  have hf:=((Fr.refl N0 w).alloc _ |>.alloc _).then0 hf1
  have HF:=hhd hf
  have HBX:=hhd hbx
  clear hf hf1 hbx
  have a0:=HBX.out.1.1 0;have a1:=HBX.out.1.1 1;have a2:=HBX.out.1.1 2;have a3:=HBX.out.1.1 3;have a4:=HBX.out.1.1 4
  have b0:=HBX.out.2.1 0;have b1:=HBX.out.2.1 1;have b2:=HBX.out.2.1 2;have b3:=HBX.out.2.1 3;have b4:=HBX.out.2.1 4
  simp only [List.getElem?_toArray,List.getElem?_cons_zero,List.getElem?_cons_succ] at a0 a1 a2 a3 a4 b0 b1 b2 b3 b4
  go_wp2_with fail
  refine(M2.out _).mono ?_
  rintro e w2 ⟨rfl,hf2⟩
  have HF2:=hhd (HF.out.then0 hf2)
  have HBX2:=hhd (boxV2_fr HBX.out hf2)
  clear hf2 a0 a1 a2 a3 a4 b0 b1 b2 b3 b4
  have a0:=HBX2.out.1.1 0;have a1:=HBX2.out.1.1 1;have a2:=HBX2.out.1.1 2;have a3:=HBX2.out.1.1 3;have a4:=HBX2.out.1.1 4
  have b0:=HBX2.out.2.1 0;have b1:=HBX2.out.2.1 1;have b2:=HBX2.out.2.1 2;have b3:=HBX2.out.2.1 3;have b4:=HBX2.out.2.1 4
  simp only [List.getElem?_toArray,List.getElem?_cons_zero,List.getElem?_cons_succ] at a0 a1 a2 a3 a4 b0 b1 b2 b3 b4
  cases y with
  | false=>
   go_wp2_with fail
   go_ret2
   exact⟨rfl,HF2.out⟩
  | true=>
   go_wp2_with fail
   refine(CC.out _).mono ?_
   rintro e w3 ⟨rfl,hf3⟩
   have HF3:=hhd (HF2.out.then0 hf3)
   clear hf3 a0 a1 a2 a3 a4 b0 b1 b2 b3 b4
   go_wp2_with fail
   go_ret2
   exact⟨rfl,HF3.out⟩
theorem pOrd_any(a b:Val)(ha:0≤a.u)(hb:0≤b.u)(w:World):Calls Tryz.prog 209 #[.agg a.enc.toArray,.agg b.enc.toArray] w fun e w'=>e = .returned (.int .i64 (vCmpR a b).1)∧Fr N0 w w':=by
 have cc:=fun W=>vCmp_any a b ha hb W
 generalize (vCmpR a b).1=x at cc ⊢
 generalize (vCmpR a b).2=y at cc
 have CC:=hhd cc
 clear cc
 unfold Val.enc at *
 go_enter Tryz.func209,Tryz.ntmps209
 go_wp2_with fail
 refine(CC.out _).mono ?_
 rintro e w1 ⟨rfl,hf1⟩
 have HF1:=hhd hf1
 clear hf1
 go_wp2_with fail
 go_ret
 exact⟨rfl,by first | exact HF1.out | exact((Fr.refl N0 w).alloc _ |>.alloc _).then0 HF1.out⟩
end
section
theorem cmpI_zero{a b:Int}:cmpI a b=0↔a=b:=by
 unfold cmpI
 split
 ·constructor <;> intro h <;> omega
 ·split <;> constructor <;> intro h <;> omega
theorem cmpI_swap(a b:Int):cmpI b a = - cmpI a b:=by
 unfold cmpI
 split <;> split <;> first | omega | (split <;> omega) | rfl
theorem bytesLess_self(l:List UInt8):Op.bytesLess l l=false:=by
 induction l with
 | nil=>rfl
 | cons x l ih=>simp [Op.bytesLess,ih]
theorem cmpS_zero{a b:ByteArray}:cmpS a b=0↔a=b:=by
 have hl:a.toList=b.toList↔a=b:=by
  rw[ByteArray.toList_eq,ByteArray.toList_eq]
  constructor
  ·intro h;cases a;cases b;simp_all
  ·rintro rfl;rfl
 unfold cmpS
 split
 ·rename_i h
  constructor
  ·intro h';cases h'
  ·rintro rfl
   rw[bytesLess_self] at h
   cases h
 ·split
  ·rename_i h;simp at h;simp [hl.1 h]
  ·rename_i h
   constructor
   ·intro h';cases h'
   ·rintro rfl;simp at h
theorem firstNZ_zero{l:List Int}:firstNZ l=0↔∀ x ∈ l,x=0:=by
 induction l with
 | nil=>simp [firstNZ]
 | cons x l ih=>
  unfold firstNZ
  by_cases hx:x=0
  ·simp [hx,ih]
  ·simp [hx]
theorem vcmp_zero{a b:Val}:vcmp a b=0↔a=b:=by
 unfold vcmp
 rw[firstNZ_zero]
 simp only [List.mem_cons,List.not_mem_nil,or_false,forall_eq_or_imp,forall_eq,cmpI_zero,cmpS_zero]
 obtain⟨k,t,n,s,u⟩:=a
 obtain⟨k',t',n',s',u'⟩:=b
 cases t <;> cases t' <;> simp
theorem bytesLess_tri:∀ x y:List UInt8,(Op.bytesLess x y=true∧Op.bytesLess y x=false∧x≠y)∨x=y∨(Op.bytesLess x y=false∧Op.bytesLess y x=true∧x≠y)
 | [],[]=>.inr (.inl rfl)
 | [],_ :: _=>.inl (by simp [Op.bytesLess])
 | _ :: _,[]=>.inr (.inr (by simp [Op.bytesLess]))
 | a :: x,b :: y=>by
  have ih:=bytesLess_tri x y
  by_cases h1:a=b
  ·subst h1
   simp only [Op.bytesLess,UInt8.lt_irrefl,decide_false,Bool.false_or,beq_self_eq_true,Bool.true_and,ne_eq,List.cons.injEq,true_and]
   exact ih
  ·have h2:(a == b)=false:=by simpa using h1
   have h3:(b == a)=false:=by simpa using fun e=>h1 e.symm
   rcases UInt8.lt_or_lt_of_ne h1 with h | h
   ·have h':¬ b < a:=UInt8.lt_asymm h
    left;simp [Op.bytesLess,h,h',h2,h3,h1]
   ·have h':¬ a < b:=UInt8.lt_asymm h
    right;right;simp [Op.bytesLess,h,h',h2,h3,h1]
theorem cmpS_swap(a b:ByteArray):cmpS b a = - cmpS a b:=by
 unfold cmpS
 rcases bytesLess_tri a.toList b.toList with⟨h1,h2,h3⟩ | h | ⟨h1,h2,h3⟩
 ·have h4:(b.toList == a.toList)=false:=by simpa using fun e=>h3 e.symm
  simp [h1,h2,h4]
 ·rw[h];simp [bytesLess_self]
 ·have h4:(a.toList == b.toList)=false:=by simpa using h3
  simp [h1,h2,h4]
theorem firstNZ_neg(l:List Int):firstNZ (l.map fun x=>-x) = - firstNZ l:=by
 induction l with
 | nil=>rfl
 | cons x l ih=>
  simp only [List.map_cons,firstNZ,ih]
  by_cases h:x=0
  ·simp [h]
  ·simp [h]
theorem vcmp_swap(a b:Val):vcmp b a = - vcmp a b:=by
 unfold vcmp
 rw[← firstNZ_neg]
 simp only [List.map_cons,List.map_nil]
 rw[cmpI_swap a.k b.k,cmpI_swap (if a.b then 1 else 0) (if b.b then 1 else 0),cmpI_swap a.n b.n,cmpS_swap a.s b.s,cmpI_swap a.u b.u]
theorem bytesLess_trans:∀ x y z:List UInt8,Op.bytesLess x y=true→Op.bytesLess y z=true→Op.bytesLess x z=true
 | _,[],_,h,_=>by simp [Op.bytesLess] at h
 | _,_ :: _,[],_,h=>by simp [Op.bytesLess] at h
 | [],_ :: _,_ :: _,_,_=>by simp [Op.bytesLess]
 | a :: x,b :: y,c :: z,h1,h2=>by
  have ih:=bytesLess_trans x y z
  simp only [Op.bytesLess,Bool.or_eq_true,decide_eq_true_eq,Bool.and_eq_true,beq_iff_eq] at h1 h2 ⊢
  rcases h1 with h1 | ⟨rfl,h1⟩
  ·rcases h2 with h2 | ⟨rfl,h2⟩
   ·exact .inl (UInt8.lt_trans h1 h2)
   ·exact .inl h1
  ·rcases h2 with h2 | ⟨rfl,h2⟩
   ·exact .inl h2
   ·exact .inr ⟨rfl,ih h1 h2⟩
def Tr3(x y z:Int):Prop:=(x=0→z=y)∧(y=0→z=x)∧(x < 0→y < 0→z < 0)
theorem tr3_first:∀ l:List (Int × Int × Int),(∀ t ∈ l,Tr3 t.1 t.2.1 t.2.2)→firstNZ (l.map (·.1)) < 0→firstNZ (l.map (·.2.1)) < 0→firstNZ (l.map (·.2.2)) < 0
 | [],_,h,_=>by simp [firstNZ] at h
 |(x,y,z) :: l,ht,h1,h2=>by
  obtain⟨t1,t2,t3⟩:=ht (x,y,z) (by simp)
  have ih:=tr3_first l fun t h=>ht t (by simp [h])
  simp only at t1 t2 t3
  simp only [List.map_cons,firstNZ] at h1 h2 ⊢
  by_cases hx:x=0
  ·have:=t1 hx
   subst this
   rw[if_pos hx] at h1
   by_cases hz:z=0
   ·rw[if_pos hz] at h2 ⊢;exact ih h1 h2
   ·rw[if_neg hz] at h2 ⊢;exact h2
  ·rw[if_neg hx] at h1
   by_cases hy:y=0
   ·have:=t2 hy
    subst this
    rw[if_neg hx];exact h1
   ·rw[if_neg hy] at h2
    have hz:=t3 h1 h2
    rw[if_neg (by omega)];exact hz
theorem tr3_I(a b c:Int):Tr3 (cmpI a b) (cmpI b c) (cmpI a c):=by
 refine⟨fun h=>?_,fun h=>?_,fun h1 h2=>?_⟩
 ·rw[cmpI_zero.1 h]
 ·rw[cmpI_zero.1 h]
 ·unfold cmpI at *
  repeat' split at h1
  all_goals repeat' split at h2
  all_goals first | omega | (rw[if_pos (by omega)];omega)
theorem tr3_S(a b c:ByteArray):Tr3 (cmpS a b) (cmpS b c) (cmpS a c):=by
 refine⟨fun h=>?_,fun h=>?_,fun h1 h2=>?_⟩
 ·rw[cmpS_zero.1 h]
 ·rw[cmpS_zero.1 h]
 ·have lt:∀ {x y:ByteArray},cmpS x y < 0→Op.bytesLess x.toList y.toList=true:=fun {x y} h=>by
   unfold cmpS at h
   split at h
   ·assumption
   ·split at h <;> omega
  unfold cmpS
  rw[if_pos (bytesLess_trans _ _ _ (lt h1) (lt h2))]
  omega
theorem vcmp_trans{a b c:Val}(h1:vcmp a b < 0)(h2:vcmp b c < 0):vcmp a c < 0:=
 tr3_first [(cmpI a.k b.k,cmpI b.k c.k,cmpI a.k c.k),(cmpI (if a.b then 1 else 0) (if b.b then 1 else 0),cmpI (if b.b then 1 else 0) (if c.b then 1 else 0),cmpI (if a.b then 1 else 0) (if c.b then 1 else 0)),(cmpI a.n b.n,cmpI b.n c.n,cmpI a.n c.n),(cmpS a.s b.s,cmpS b.s c.s,cmpS a.s c.s),(cmpI a.u b.u,cmpI b.u c.u,cmpI a.u c.u)]
  (by
   intro t ht
   simp only [List.mem_cons,List.not_mem_nil,or_false] at ht
   rcases ht with rfl | rfl | rfl | rfl | rfl
   ·exact tr3_I _ _ _
   ·exact tr3_I _ _ _
   ·exact tr3_I _ _ _
   ·exact tr3_S _ _ _
   ·exact tr3_I _ _ _) h1 h2
end
end Go.Proofs.YtefepfiijoafbaaGreat
