/- Beh Beh2 Beh3 -/
import Derived.Test.YtefepfiijoafbaaGreatQR3SortT
import Derived.Test.YtefepfiijoafbaaGreatQR3Sort
set_option linter.unusedVariables false
set_option linter.unusedSimpArgs false
set_option maxRecDepth 100000
set_option maxHeartbeats 8000000
namespace Go.Proofs.YtefepfiijoafbaaGreat
open Go.RowKit Go.Shelf Go.Maps
attribute [local go_sem] Oper.semAt_some
attribute [local irreducible] wpQuiet
noncomputable def bhB(n:Nat):Code:=lvSuf n ((Tryz.f205.body).getD .skip)
noncomputable def bhL:Code:=srLoop (srIn (srSnd (lvFst (bhB 2))))
noncomputable def bhI:Code:=srIn (lvFst (srSnd bhL))
theorem bhL_eq:bhL = .seq (lvFst bhL) (.seq (.block 1 (.seq (lvFst bhI) (srSnd bhI))) (srSnd (srSnd bhL))):=by kernel_rfl
structure BhF(f:Nat→Value)(v0:Value)(list:Bool)(B:Nat)(ov:Value)(i:Nat):Prop where
 h0:f 0=v0
 h2:f 2 = .bool list
 h4:f 4 = .pointer (some ⟨B,0,none⟩)
 h7:f 7=ov
 h8:f 8 = .int .i64 i
theorem bhR3{K:Act→World→Prop}{Q:Exit→Act→World→Prop}(W:World)(k n c B:Nat)(a:Option Addr)(list:Bool)(ov:Value)(f:Nat→Value)(h:BhF f (.slice a n c) list B ov k)
  (hK:k < n→∀ f',BhF f' (.slice a n c) list B ov k→K (frA 47 f') W) (hQ:¬ k < n→∀ f',BhF f' (.slice a n c) list B ov k→Q (.exit 0) (frA 47 f') W) :
  Code.wp Tryz.prog (lvFst bhL) (Exit.then K Q) (frA 47 f) W:=by
 have HK:=hhd hK;have HQ:=hhd hQ
 obtain⟨h0,h2,h4,h7,h8⟩:=h
 clear hK hQ
 show Code.wp _ _ _ { tmps:=#[f 0,f 1,f 2,f 3,f 4,f 5,f 6,f 7,f 8,f 9,f 10,f 11,f 12,f 13,f 14,f 15,f 16,f 17,f 18,f 19,f 20,f 21,f 22,f 23,f 24,f 25,f 26,f 27,f 28,f 29,f 30,f 31,f 32,f 33,f 34,f 35,f 36,f 37,f 38,f 39,f 40,f 41,f 42,f 43,f 44,f 45,f 46],defers:=[] } _
 rw[h0,h2,h4,h7,h8]
 clear h0 h2 h4 h7 h8
 conv=>arg 2;whnf
 by_cases hlt:k < n
 ·have hki:(k:Int) < (n:Int):=by omega
  go_wp2_with fail
  refine cut_use (n:=47) (K:=K) _ rfl ?_
  exact HK.out hlt _ ⟨rfl,rfl,rfl,rfl,rfl⟩
 ·have hki:¬(k:Int) < (n:Int):=by omega
  go_wp2_with fail
  refine cut_useQ (n:=47) (Q:=Q) (e:=.exit 0) _ rfl ?_
  exact HQ.out hlt _ ⟨rfl,rfl,rfl,rfl,rfl⟩
theorem bhR4{K:Act→World→Prop}{Q:Exit→Act→World→Prop}(W:World)(k B:Nat)(hk:k≤10000000000)(v0 ov:Value)(list:Bool)(f:Nat→Value)(h:BhF f v0 list B ov k)
  (hK:∀ f',BhF f' v0 list B ov (k+1)→K (frA 47 f') W) :
  Code.wp Tryz.prog (srSnd (srSnd bhL)) (Exit.then K Q) (frA 47 f) W:=by
 have HK:=hhd hK
 obtain⟨h0,h2,h4,h7,h8⟩:=h
 clear hK
 show Code.wp _ _ _ { tmps:=#[f 0,f 1,f 2,f 3,f 4,f 5,f 6,f 7,f 8,f 9,f 10,f 11,f 12,f 13,f 14,f 15,f 16,f 17,f 18,f 19,f 20,f 21,f 22,f 23,f 24,f 25,f 26,f 27,f 28,f 29,f 30,f 31,f 32,f 33,f 34,f 35,f 36,f 37,f 38,f 39,f 40,f 41,f 42,f 43,f 44,f 45,f 46],defers:=[] } _
 rw[h0,h2,h4,h7,h8]
 clear h0 h2 h4 h7 h8
 conv=>arg 2;whnf
 go_wp2_with fail
 refine cut_use (n:=47) (K:=K) _ rfl ?_
 exact HK.out _ ⟨rfl,rfl,rfl,rfl,by show Value.int .i64 ((k:Int)+1)=_;go_num⟩
theorem bhR5{K:Act→World→Prop}{Q:Exit→Act→World→Prop}(W:World)(b off n cap i B:Nat)(x:Wr)(z:Val)(list:Bool)(ov:Value)(f:Nat→Value)(h:BhF f (.slice (some ⟨b,off,none⟩) n cap) list B ov i)(hin:i < n)(hc:Five b (off+i * 5) z W)(hB:W.heap[B]?=some (.cells x.enc.toArray 61 (0,0)))
  (hK:∀ f' W',BhF f' (.slice (some ⟨b,off,none⟩) n cap) list B ov i→f' 29 = .bool (behF x list z)→Fr N0 W W'→K (frA 47 f') W') :
  Code.wp Tryz.prog (lvFst bhI) (Exit.then K Q) (frA 47 f) W:=by
 obtain⟨xd,xu,xp,y⟩:=x
 have key:=val_key z y
 have e1:z=y→behF ⟨xd,xu,xp,y⟩ list z=false:=fun e=>by unfold behF;rw[e,neV_same];rfl
 have e2:z≠y→behF ⟨xd,xu,xp,y⟩ list z=(list || xd):=fun e=>by unfold behF;rw[neV_true e];rfl
 obtain⟨G,hG⟩:∃ G,behF ⟨xd,xu,xp,y⟩ list z=G:=⟨_,rfl⟩
 rw[hG] at e1 e2 hK
 obtain⟨yk,yb,yn,ys,yu⟩:=y
 obtain⟨zk,zb,zn,zs,zu⟩:=z
 simp only at hc key
 have HK:=hhd hK;have E1:=hhd e1;have E2:=hhd e2
 obtain⟨h0,h2,h4,h7,h8⟩:=h
 have hin':(i:Int) < (n:Int):=by omega
 obtain⟨z0,z1,z2,z3,z4⟩:=hc
 simp only [Wr.enc] at hB
 obtain⟨mB,nB,lB⟩:=box_cells hB
 clear hK e1 e2 hG hB
 show Code.wp _ _ _ { tmps:=#[f 0,f 1,f 2,f 3,f 4,f 5,f 6,f 7,f 8,f 9,f 10,f 11,f 12,f 13,f 14,f 15,f 16,f 17,f 18,f 19,f 20,f 21,f 22,f 23,f 24,f 25,f 26,f 27,f 28,f 29,f 30,f 31,f 32,f 33,f 34,f 35,f 36,f 37,f 38,f 39,f 40,f 41,f 42,f 43,f 44,f 45,f 46],defers:=[] } _
 rw[h0,h2,h4,h7,h8]
 clear h0 h2 h4 h7 h8
 conv=>arg 2;whnf
 rcases key with e | ⟨hne,key⟩
 ·have hg:=E1.out e
  subst hg
  clear E1 E2
  simp only [Val.mk.injEq] at e
  obtain⟨rfl,rfl,rfl,rfl,rfl⟩:=e
  go_quiet (fail)
  go_wp2_with fail
  refine cut_use (n:=47) (K:=K) _ rfl ?_
  exact HK.out _ _ ⟨rfl,rfl,rfl,rfl,rfl⟩ rfl ((Fr.refl N0 W).drewN _)
 ·have hg:=E2.out hne
  subst hg
  clear E1 E2 hne
  cases list <;> cases xd
  all_goals
   rcases key with e | ⟨rfl,e⟩ | ⟨rfl,rfl,e⟩ | ⟨rfl,rfl,rfl,e⟩ | ⟨rfl,rfl,rfl,rfl,e⟩
  all_goals
   go_quiet (fail)
   go_wp2_with fail
   refine cut_use (n:=47) (K:=K) _ rfl ?_
   exact HK.out _ _ ⟨rfl,rfl,rfl,rfl,rfl⟩ rfl ((Fr.refl N0 W).drewN _)
theorem bhR6{K:Act→World→Prop}{Q:Exit→Act→World→Prop}(W:World)(base b off n cap i B:Nat)(z:Val)(list d:Bool)(ov:Value)(os:List Val)(f:Nat→Value)(h:BhF f (.slice (some ⟨b,off,none⟩) n cap) list B ov i)(h29:f 29 = .bool d)(hin:i < n)(hc:Five b (off+i * 5) z W)
  (hV:VRow W base ov os) (hb:base≤W.heap.size) (hm:os.length≤10000000000)
  (hK:∀ f' W' ov',BhF f' (.slice (some ⟨b,off,none⟩) n cap) list B ov' i→VRow W' base ov' (if d=true then os ++ [z] else os)→Fr (fun q=>base≤q) W W'→K (frA 47 f') W') :
  Code.wp Tryz.prog (srSnd bhI) (Exit.then K Q) (frA 47 f) W:=by
 obtain⟨i0,hi,hz0,hz1,hz2⟩:=info_parts val_info
 obtain⟨m,hmm⟩:∃ m,os.length=m:=⟨_,rfl⟩
 have HM:=hhd hmm
 have HV:=hhd hV
 have hrow:W.ownsRow base 57 5 ov m (os.flatMap Val.enc):=by rw[← hmm];exact hV
 have hform:=hV.vform
 rw[hmm] at hform hm
 obtain⟨oa,oc,rfl⟩:=hform
 obtain⟨zk,zb,zn,zs,zu⟩:=z
 obtain⟨z0,z1,z2,z3,z4⟩:=hc
 simp only at z0 z1 z2 z3 z4
 have HK:=hhd hK
 obtain⟨h0,h2,h4,h7,h8⟩:=h
 have hin':(i:Int) < (n:Int):=by omega
 clear hK hV hmm
 show Code.wp _ _ _ { tmps:=#[f 0,f 1,f 2,f 3,f 4,f 5,f 6,f 7,f 8,f 9,f 10,f 11,f 12,f 13,f 14,f 15,f 16,f 17,f 18,f 19,f 20,f 21,f 22,f 23,f 24,f 25,f 26,f 27,f 28,f 29,f 30,f 31,f 32,f 33,f 34,f 35,f 36,f 37,f 38,f 39,f 40,f 41,f 42,f 43,f 44,f 45,f 46],defers:=[] } _
 rw[h0,h2,h4,h7,h8,h29]
 clear h0 h2 h4 h7 h8 h29
 conv=>arg 2;whnf
 cases d with
 | true=>
  go_wp2_with (at_builtin;go_loud (refine wpList_append_lies _ rfl _ _ 91 rfl (base) 57 i0 (.agg #[.int .u8 0,.bool false,.int .i64 0,.string ⟨#[]⟩,.int .u64 0]) 5 40 Tryz.underlying91 hi hz0 hz1 hz2 rfl (by decide) (.slice oa m oc) (m) _ rfl (hrow.alloc _) ⟨W.heap.size,0,none⟩ 1 1 ([.int .u8 zk,.bool zb,.int .i64 zn,.string zs,.int .u64 zu]) rfl rfl (World.news_of_block (cs:=([.int .u8 zk,.bool zb,.int .i64 zn,.string zs,.int .u64 zu]).toArray) (t:=57) (fr:=(0,0)) (heap_alloc_new W _)) (by simp [Value.oneCell']) (by omega) (by unfold maxLen;omega) (by omega) (by simp;omega) (W.heap.size+1) (by simp) ?_);intro g1 cap1 w3 hown3 hgrow3 hfresh3 hlt3)
  refine cut_use (n:=47) (K:=K) _ rfl ?_
  have hfa:Fr (fun q=>(Value.slice oa m oc).ownBlock=some q) _ w3:=(Fr.refl _ _).grown hgrow3 fun q e=>.inl e
  refine HK.out _ w3 _ ⟨rfl,rfl,rfl,rfl,rfl⟩ ?_ (((Fr.refl (fun q=>base≤q) W).alloc _).trans hfa fun q hq=>.inl (ownsRow_lt hrow q hq).1)
  first | rw[if_pos rfl] | rw[if_pos trivial]
  unfold VRow
  rw[List.length_append,HM.out,List.flatMap_append]
  exact hown3
 | false=>
  go_wp2_with fail
  refine cut_use (n:=47) (K:=K) _ rfl ?_
  refine HK.out _ W _ ⟨rfl,rfl,rfl,rfl,rfl⟩ ?_ (Fr.refl _ _)
  first | rw[if_neg (by decide)] | skip
  exact HV.out
def BhI(base n B:Nat)(v0:Value)(list:Bool)(p:Val→Bool)(l:List Val)(w0:World)(a:Act)(W:World):Prop:=∃ f i ov,a=frA 47 f∧BhF f v0 list B ov i∧i≤n∧VRow W base ov ((l.take i).filter p)∧Fr (fun q=>base≤q) w0 W
def BhM(n:Nat)(a:Act)(_:World):Nat:=n - (intOf (a.tmps.getD 8 (.bool false))).toNat
theorem bhLoop{K:Act→World→Prop}{Q:Exit→Act→World→Prop}(w0:World)(f:Nat→Value)(b B n cap:Nat)(a:Option Addr)(x:Wr)(list:Bool)(l:List Val)(hl:RowsK Val.enc 5 w0 b (.slice a n cap) l)(hn:n≤10000000000)(hB:w0.heap[B]?=some (.cells x.enc.toArray 61 (0,0)))
  (h:BhF f (.slice a n cap) list B (.slice none 0 0) 0)
  (hK:∀ f' W' ov i,BhF f' (.slice a n cap) list B ov i→VRow W' w0.heap.size ov (l.filter (behF x list))→Fr (fun q=>w0.heap.size≤q) w0 W'→K (frA 47 f') W') :
  Code.wp Tryz.prog (.loop bhL) (Exit.inBlock 0 (Exit.then K Q)) (frA 47 f) w0:=by
 obtain⟨a',off,cap',e,r1,r2,r3,-,r5⟩:=hl
 injection e with e1 e2 e3
 subst e1 e3
 have hln:l.length=n:=e2.symm
 refine wp_loop (BhI w0.heap.size n B (.slice a n cap) list (behF x list) l w0) (BhM n) ⟨f,0,_,rfl,h,Nat.zero_le _,World.ownsRow_nil _ _ _ _,Fr.refl _ _⟩ ?_
 rintro a2 Wx ⟨f2,i,ov,rfl,hf2,hi,hV,hF⟩
 have hmm:BhM n (frA 47 f2) Wx=n - i:=by unfold BhM;rw[frA_getS _ _ _ (by decide),hf2.h8];simp [intOf]
 rw[hmm,bhL_eq]
 have hwz:=hF.size
 refine wp_seq (bhR3 Wx i n cap B a list ov f2 hf2 (fun hlt f3 h3=>?_) fun hlt f3 h3=>?_)
 ·obtain rfl:=r3 (by omega)
  have hil:i < l.length:=by omega
  have c0:=r5 i hil 0 (by decide)
  have hbw:b < w0.heap.size:=lt_of_cell c0
  have hnb:¬ w0.heap.size≤b:=by omega
  have hc:∀ W',Fr (fun q=>w0.heap.size≤q) w0 W'→∀ c,c < 5→W'.cell? ⟨b,off+i * 5+c,none⟩=l[i].enc[c]?:=fun W' hf c hc=>by
   have h1:=r5 i hil c hc
   rw[← h1]
   exact cell_same (p:=⟨b,off+i * 5+c,none⟩) (hf.at hnb hbw)
  have hfive:∀ W',Fr (fun q=>w0.heap.size≤q) w0 W'→Five b (off+i * 5) l[i] W':=fun W' hf=>⟨hc W' hf 0 (by decide),hc W' hf 1 (by decide),hc W' hf 2 (by decide),hc W' hf 3 (by decide),hc W' hf 4 (by decide)⟩
  have hBl:=lt_of_block hB
  have hbox:∀ W',Fr (fun q=>w0.heap.size≤q) w0 W'→W'.heap[B]?=some (.cells x.enc.toArray 61 (0,0)):=fun W' hf=>(hf.at (k:=B) (by omega) hBl).trans hB
  refine wp_seq (wp_block (wp_inBS ?_))
  refine wp_seq (bhR5 Wx b off n cap i B x l[i] list ov f3 h3 hlt (hfive Wx hF) (hbox Wx hF) fun f4 W4 h4 e29 hf4=>?_)
  have hF4:=hF.then0 hf4
  have hlen:((l.take i).filter (behF x list)).length≤10000000000:=Nat.le_trans (List.length_filter_le _ _) (by rw[List.length_take];omega)
  refine bhR6 W4 w0.heap.size b off n cap i B l[i] list _ ov _ f4 h4 e29 hlt (hfive W4 hF4) (hV.fr hf4 fun _ _ h=>h) (by have:=hf4.size;omega) hlen fun f5 W5 ov' h5 hV5 hF5=>?_
  refine bhR4 W5 i B (by omega) _ ov' list f5 h5 fun f6 h6=>⟨⟨f6,i+1,ov',rfl,h6,hlt,?_,hF4.trans hF5 fun q hq=>.inl hq⟩,?_⟩
  ·rw[List.take_succ_eq_append_getElem hil,List.filter_append,List.filter_cons,List.filter_nil]
   split at hV5
   ·rename_i hd;rw[if_pos hd];exact hV5
   ·rename_i hd;rw[if_neg hd,List.append_nil];exact hV5
  ·unfold BhM
   rw[frA_getS _ _ _ (by decide),h6.h8]
   exact Nat.sub_lt_sub_left hlt (Nat.lt_succ_self i)
 ·have hfull:l.take i=l:=by rw[show i=l.length by omega,List.take_length]
  rw[hfull] at hV
  exact hK f3 Wx ov i h3 hV hF
theorem VRow.toRows{W:World}{base:Nat}{v:Value}{os:List Val}(h:VRow W base v os):∃ b,base≤b∧RowsK Val.enc 5 W b v os:=by
 obtain⟨g,hg,hr⟩:=rowsK_of_row (enc:=Val.enc) (n:=5) (fun _=>rfl) (by decide) h
 exact⟨g,hg,hr⟩
theorem VRow.base{W:World}{base base':Nat}{v:Value}{os:List Val}(h:VRow W base v os)(hb:base'≤base):VRow W base' v os:=ownsRow_base h hb
theorem r18Behind_any(w:World)(b:Nat)(v:Value)(l:List Val)(h:RowsK Val.enc 5 w b v l)(hn:l.length≤1000000000)(hm:∀ y ∈ l,valMay y=true)(hr:RisesV l)(x:Wr)(hx:valMay x.val=true)(list:Bool) :
  Calls Tryz.prog 205 #[v,.agg x.enc.toArray,.bool list] w fun e w'=>∃ v',e = .returned v'∧VRow w' w.heap.size v' (wrV l x list)∧Fr N0 w w':=by
 obtain⟨i0,hi,hz0,hz1,hz2⟩:=info_parts val_info
 have hres:behV l x list=wrV l x list:=behV_wrV hr
 rw[← hres]
 obtain⟨w0,hw0⟩:∃ w0,w.alloc (.cells x.enc.toArray 61)=w0:=⟨_,rfl⟩
 have hf0:Fr N0 w w0:=by rw[← hw0];exact(Fr.refl _ _).alloc _
 have hb0:w0.heap[w.heap.size]?=some (.cells x.enc.toArray 61 (0,0)):=by rw[← hw0];exact World.alloc_heap_new w _
 have hsz:w0.heap.size=w.heap.size+1:=by rw[← hw0];simp
 have hl0:=rowsK_frT (enc:=Val.enc) (n:=5) val_len h hf0 fun _=>id
 have hfm:∀ y ∈ l.filter (behF x list),valMay y=true:=fun y hy=>hm y (List.mem_filter.1 hy).1
 have hfl:(l.filter (behF x list)).length≤1000000000:=Nat.le_trans (List.length_filter_le _ _) hn
 obtain⟨a,off,cap,rfl,-⟩:=id h
 obtain⟨n,hln⟩:∃ n,l.length=n:=⟨_,rfl⟩
 rw[hln] at hl0 hn ⊢
 obtain⟨F,hF⟩:∃ F,l.filter (behF x list)=F:=⟨_,rfl⟩
 have hlp:=fun(K:Act→World→Prop) (Q:Exit→Act→World→Prop) (f:Nat→Value) hh hK=>bhLoop (K:=K) (Q:=Q) w0 f b w.heap.size n cap a x list l hl0 (by omega) hb0 hh hK
 have hvs:behV l x list=if x.del=true then F else srtV (F ++ [x.val]):=by unfold behV;rw[hF]
 rw[hF] at hfm hfl
 simp only [hF] at hlp
 have HF0:=hhd hf0;have HB0:=hhd hb0;have HFM:=hhd hfm;have HLP:=hhd hlp;have HVS:=hhd hvs;have HX:=hhd hx
 obtain⟨G,hG⟩:∃ G,behV l x list=G:=⟨_,rfl⟩
 rw[hG] at HVS ⊢
 clear hf0 hb0 hl0 hfm hlp hvs h hm hr hres hF hln hG hx
 obtain⟨xd,xu,xp,yk,yb,yn,ys,yu⟩:=x
 simp only [Wr.enc] at HB0 hw0 ⊢
 go_enter Tryz.func205,Tryz.ntmps205
 go_wp2_with fail
 try rw[hw0]
 clear hw0
 rename_i Qx Kx hKx
 refine wp_frA (n:=47) _ rfl ?_
 refine(show ∀ f0:Nat→Value,f0 0 = .slice a n cap→f0 2 = .bool list→f0 4 = .pointer (some ⟨w.heap.size,0,none⟩)→f0 7 = .slice none 0 0→f0 8 = .int .i64 (0:Nat)→Code.wp Tryz.prog (.loop bhL) _ (frA 47 f0) w0 from fun f0 g0 g2 g4 g7 g8=>?_) _ rfl rfl rfl rfl rfl
 refine HLP.out Kx Qx f0 ⟨g0,g2,g4,g7,g8⟩ fun f W ov i hf hV hfr=>?_
 refine hKx _ _ ?_
 obtain⟨h0,h2,h4,h7,h8⟩:=hf
 have hbox:=(hfr.at (k:=w.heap.size) (by omega) (lt_of_block HB0.out)).trans HB0.out
 obtain⟨mB,nB,lB⟩:=box_cells hbox
 have hwz:=hfr.size
 obtain⟨oa,oc,rfl⟩:=hV.vform
 obtain⟨m,hm⟩:∃ m,F.length=m:=⟨_,rfl⟩
 have hrow:W.ownsRow w0.heap.size 57 5 (.slice oa m oc) m (F.flatMap Val.enc):=by have h:=hV;unfold VRow at h;rwa [hm] at h
 have HV:=hhd hV;have HFR:=hhd hfr;have HM:=hhd hm
 rw[hm] at h7 hfl
 clear hV hfr hbox hKx g0 g2 g4 g7 g8
 show Code.wp _ _ _ { tmps:=#[f 0,f 1,f 2,f 3,f 4,f 5,f 6,f 7,f 8,f 9,f 10,f 11,f 12,f 13,f 14,f 15,f 16,f 17,f 18,f 19,f 20,f 21,f 22,f 23,f 24,f 25,f 26,f 27,f 28,f 29,f 30,f 31,f 32,f 33,f 34,f 35,f 36,f 37,f 38,f 39,f 40,f 41,f 42,f 43,f 44,f 45,f 46],defers:=[] } _
 rw[h0,h2,h4,h7,h8]
 clear h0 h2 h4 h7 h8
 cases xd with
 | true=>
  go_wp2_with fail
  have hg:=HVS.out
  first | rw[if_pos rfl] at hg | rw[if_pos trivial] at hg
  subst hg
  have hV:=HV.out
  rw[HM.out] at hV
  exact bodyPost_ret (v:=.slice oa m oc) (by simp [results,Tryz.results205,go_sem]) rfl ⟨_,rfl,hV.base (by omega),HF0.out.then0 (fr_ge HFR.out (Nat.le_refl _))⟩
 | false=>
  go_wp2_with (at_builtin;go_loud (refine wpList_append_lies _ rfl _ _ 91 rfl (w0.heap.size) 57 i0 (.agg #[.int .u8 0,.bool false,.int .i64 0,.string ⟨#[]⟩,.int .u64 0]) 5 40 Tryz.underlying91 hi hz0 hz1 hz2 rfl (by decide) (.slice oa m oc) (m) _ rfl (hrow.alloc _) ⟨W.heap.size,0,none⟩ 1 1 ([.int .u8 yk,.bool yb,.int .i64 yn,.string ys,.int .u64 yu]) rfl rfl (World.news_of_block (cs:=([.int .u8 yk,.bool yb,.int .i64 yn,.string ys,.int .u64 yu]).toArray) (t:=57) (fr:=(0,0)) (heap_alloc_new W _)) (by simp [Value.oneCell']) (by omega) (by unfold maxLen;omega) (by omega) (by simp;omega) (W.heap.size+1) (by simp) ?_);intro g1 cap1 w3 hown3 hgrow3 hfresh3 hlt3)
  have hfa:Fr (fun q=>(Value.slice oa m oc).ownBlock=some q) _ w3:=(Fr.refl _ _).grown hgrow3 fun q e=>.inl e
  have hf3:Fr (fun q=>w0.heap.size≤q) w0 w3:=(HFR.out.alloc _).trans hfa fun q hq=>.inl (ownsRow_lt hrow q hq).1
  have hV3:VRow w3 w0.heap.size (.slice (some ⟨g1,0,none⟩) (m+1) cap1) (F ++ [⟨yk,yb,yn,ys,yu⟩]):=by
   unfold VRow
   rw[List.length_append,HM.out,List.flatMap_append]
   exact hown3
  obtain⟨gb,hgb,hrows⟩:=hV3.toRows
  have hso:=r3Sort_any w3 gb _ _ hrows (by rw[List.length_append,HM.out];simp;omega) (fun z hz=>by
   rcases List.mem_append.1 hz with h | h
   ·exact HFM.out z h
   ·rw[List.mem_singleton.1 h];exact HX.out)
  have HSO:=hhd hso;have HF3:=hhd (HF0.out.then0 (fr_ge hf3 (Nat.le_refl _)))
  clear hso hf3 hV3 hfa hown3 hgrow3 hfresh3 hrow hrows mB nB lB
  refine HSO.out.mono ?_
  rintro e w4 ⟨v',rfl,hV4,hf4⟩
  have hg:=HVS.out
  first | rw[if_neg (by decide)] at hg | rw[if_neg id] at hg
  subst hg
  have HV4:=hhd hV4;have HF4:=hhd hf4
  clear hV4 hf4
  go_wp2_with fail
  have hz:=HF3.out.size
  exact bodyPost_ret (v:=v') (by simp [results,Tryz.results205,go_sem]) rfl ⟨v',rfl,HV4.out.base hz,HF3.out.then0 HF4.out⟩
end Go.Proofs.YtefepfiijoafbaaGreat
