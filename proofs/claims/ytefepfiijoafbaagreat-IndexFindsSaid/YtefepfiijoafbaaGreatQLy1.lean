/- SameN Ly0 Ly1 -/
import Derived.BigQuiet
import Derived.Test.YtefepfiijoafbaaGreatQDelV
import Derived.Test.YtefepfiijoafbaaGreatQLxO
import Derived.Test.YtefepfiijoafbaaGreatQAddY
import Derived.Test.YtefepfiijoafbaaGreatQIOrder
import Derived.Test.YtefepfiijoafbaaGreatQValR
set_option linter.unusedVariables false
set_option linter.unusedSimpArgs false
set_option maxRecDepth 100000
set_option maxHeartbeats 4000000
namespace Go.Proofs.YtefepfiijoafbaaGreat
section
open Go.RowKit Go.Shelf
attribute [local go_sem] Oper.semAt_some
attribute [local irreducible] wpQuiet
theorem sameN_any(w:World)(b c:Nat)(v z:Value)(xs:List Int)(h:Ints .u64 w b v xs)(h':Ints .u64 w c z xs):Calls Tryz.prog 29 #[v,z] w fun e w'=>e = .returned (.bool true)∧Fr N0 w w':=by
 obtain⟨a,off,cap,rfl,h1,h2,h3,-,h5,-⟩:=h
 obtain⟨a',off',cap',rfl,h1',h2',h3',-,h5',-⟩:=h'
 obtain⟨n,hn⟩:∃ n,xs.length=n:=⟨_,rfl⟩
 have HN:=hhd hn;have HC:=hhd h5;have HC':=hhd h5'
 rw[hn] at h1 h3 h1' h3'
 simp only [hn]
 clear h5 h5' hn
 go_enter Tryz.func29,Tryz.ntmps29
 go_wp2
 go_loopw [5] (fun i wr=>∃ k:Nat,k≤n∧i = .int .i64 k∧Fr N0 w wr) (fun i _=>n - (intOf i).toNat)
 case atStart=>exact⟨0,Nat.zero_le _,rfl,Fr.refl _ _⟩
 case round=>
  obtain⟨k,hk,rfl,hfr⟩:=hrel
  by_cases hlt:k < n
  ·obtain rfl:=h3 (by omega)
   obtain rfl:=h3' (by omega)
   have hx:k < xs.length:=by rw[HN.out];exact hlt
   have e1:=hfr.cell id (HC.out k hx)
   have e2:=hfr.cell id (HC'.out k hx)
   obtain⟨x,hx'⟩:∃ x,xs[k]=x:=⟨_,rfl⟩
   rw[hx'] at e1 e2
   have hki:(k:Int) < (n:Int):=by omega
   have HFR:=hhd hfr
   clear hx' hfr hx
   go_wp2
   go_quiet (fail)
   go_wp2
   go_roundw
   case rel=>exact⟨k+1,by omega,by go_num,HFR.out.drewN _⟩
   case measure=>simp [intOf];omega
  ·have hki:¬(k:Int) < (n:Int):=by omega
   go_wp2
   go_ret
   exact⟨rfl,hfr⟩
end
section
open Go.RowKit Go.Shelf Go.Maps
theorem rowsK_of_block{α:Type}{enc:α→List Value}{n:Nat}(hn:∀ x,(enc x).length=n){W:World}{S:Nat}{cs:Array Value}{t:TypeId}(xs:List α)(h:W.heap[S]?=some (.cells cs t (0,0)))(hcs:cs.toList=xs.flatMap enc)(hl:xs.length≤1000) :
  RowsK enc n W S (.slice (some ⟨S,0,none⟩) xs.length xs.length) xs:=
 ⟨some ⟨S,0,none⟩,0,xs.length,rfl,Nat.le_refl _,by omega,fun _=>rfl,by simp,fun i hi c hc=>by
  have h1:=flat_get hn xs i hi c hc
  rw[(box_cells h).1,← h1,← hcs,Nat.zero_add]
  simp⟩
theorem ints_of_block{W:World}{S:Nat}{t:TypeId}(xs:List Int)(h:W.heap[S]?=some (.cells (xs.map (Value.int .u64)).toArray t (0,0)))(hl:xs.length≤1000)(hw:∀ x ∈ xs,(Lit.int .u64 x).wf=true) :
  Ints .u64 W S (.slice (some ⟨S,0,none⟩) xs.length xs.length) xs:=by
 refine⟨some ⟨S,0,none⟩,0,xs.length,rfl,Nat.le_refl _,by omega,fun _=>rfl,by simp,fun i hi=>?_,hw⟩
 rw[(box_cells h).1]
 simp [hi]
theorem ispl_bound{W:World}{R:Nat→Prop}{p:Nat}{l:PL}(h:IsPL W R p l):IsPL W (fun k=>R k∧k < W.heap.size) p l:=by
 obtain⟨vt,vc,cs,h1,h2,⟨h3,h4⟩,⟨h5,h6,h7⟩,h8⟩:=h
 refine⟨vt,vc,cs,h1,⟨h2,lt_of_block h1⟩,⟨h3,fun k hk=>⟨⟨(h4 k hk).1,(ownsRow_lt h3 k hk).2⟩,(h4 k hk).2⟩⟩,⟨h5,h6,fun k hk=>⟨⟨(h7 k hk).1,(ownsRow_lt h5 k hk).2⟩,(h7 k hk).2⟩⟩,fun i hi hi'=>?_⟩
 obtain⟨e,b,hb,hr⟩:=h8 i hi hi'
 refine⟨e,b,hb,fun h0=>⟨⟨(hr h0).1,?_⟩,(hr h0).2⟩⟩
 obtain⟨a,off,cap,-,-,-,-,-,g⟩:=hb
 exact lt_of_cell (p:=⟨b,off+0 * 8+0,none⟩) (g 0 h0 0 (by decide))
abbrev vP(p:Nat):Value:=.pointer (some ⟨p,0,none⟩)
def Lxl(w W:World)(R:Nat→Prop)(p:Nat)(l:PL):Prop:=IsPL W R p l∧(∀ k,R k→w.heap.size≤k∧k < W.heap.size)∧Fr N0 w W
section
variable {w W W':World} {R:Nat→Prop} {p:Nat} {l:PL}
theorem Lxl.frT{T:Nat→Prop}(h:Lxl w W R p l)(hf:Fr T W W')(hT:∀ k,R k→¬ T k)(hw:∀ k,T k→w.heap.size≤k):Lxl w W' R p l:=
 ⟨h.1.fr hf hT,fun k hk=>⟨(h.2.1 k hk).1,Nat.lt_of_lt_of_le (h.2.1 k hk).2 hf.size⟩,h.2.2.trans hf fun k hk=>.inr (hw k hk)⟩
theorem Lxl.fr(h:Lxl w W R p l)(hf:Fr N0 W W'):Lxl w W' R p l:=h.frT hf (fun _ _=>id) fun _ h=>h.elim
end
theorem lxl_new(w W:World)(hf:Fr N0 w W)(s:Sch)(hs:schMay s=0):Calls Tryz.prog 30 #[.agg s.enc.toArray] W fun e w'=>∃ p,e = .returned (.tuple #[vP p,.int .i64 0])∧W.heap.size≤p∧Lxl w w' (fun k=>k=p) p { s:=s }∧Fr N0 W w':=by
 refine(pNew_any W s).mono fun e w' h=>?_
 obtain⟨⟨-,p,he,hp,hl⟩ | ⟨h0,-⟩,hf1⟩:=h
 ·have hlt:p < w'.heap.size:=by
   obtain⟨vt,vc,cs,h1,-⟩:=hl
   exact lt_of_block h1
  exact⟨p,he,hp,⟨hl,fun k hk=>by subst hk;exact⟨Nat.le_trans hf.size hp,hlt⟩,hf.then0 hf1⟩,hf1⟩
 ·exact absurd hs h0
def LxAdd(w W:World)(R:Nat→Prop)(p:Nat)(l:PL)(e:Ending)(w':World):Prop:=(∃ a E:Int,e = .returned (.tuple #[.int .i64 a,.int .i64 E]))∧∃ R',Lxl w w' R' p l∧(∀ k,R' k→R k∨W.heap.size≤k)∧Fr R W w'
theorem lxl_add{w W:World}{R:Nat→Prop}{p:Nat}{l:PL}{q:ByteArray}{N:Nat}(h:Lxl w W R p l)(hl:l.Fine q N)(hN:N≤1000000000)(c:CmV)(xs:List Wr)(b:Nat)(hc:Wrs W b (.slice c.a c.n c.c) xs)(hx:∀ x ∈ xs,x.wf)(hbR:0 < xs.length→¬ R b) :
  Calls Tryz.prog 31 #[vP p,.agg c.enc.toArray] W (LxAdd w W R p (addPL l ⟨c.time,xs⟩).1):=by
 refine(add_all W R p q l c xs b N h.1 hl hN hc hx hbR).mono fun e w' hp=>?_
 obtain⟨⟨a,he⟩,R',g1,g2,g3⟩:=hp
 refine⟨⟨a,_,he⟩,fun k=>R' k∧k < w'.heap.size,⟨ispl_bound g1,fun k hk=>⟨?_,hk.2⟩,h.2.2.trans g3 fun k hk=>.inr (h.2.1 k hk).1⟩,fun k hk=>g2 k hk.1,g3⟩
 have:=h.2.2.size
 rcases g2 k hk.1 with h' | h'
 ·exact(h.2.1 k h').1
 ·omega
theorem fine_age:PL.Fine { s:=cAge } bAge 0:=⟨⟨List.Pairwise.nil,List.Pairwise.nil,fun c h=>(by cases h)⟩,rfl,may_age,fun t h=>(by cases h),Nat.le_refl _,Nat.le_refl _,fun c h=>(by cases h)⟩
theorem fine_fri:PL.Fine { s:=cFri } bFri 0:=⟨⟨List.Pairwise.nil,List.Pairwise.nil,fun c h=>(by cases h)⟩,rfl,may_fri,fun t h=>(by cases h),Nat.le_refl _,Nat.le_refl _,fun c h=>(by cases h)⟩
theorem addPL_age:(addPL { s:=cAge } ⟨1,wAge⟩).1=lAge:=by unfold addPL;rw[if_pos add_age];exact addIn_age
theorem addPL_fri:(addPL { s:=cFri } ⟨1,wFri⟩).1=lFri:=by unfold addPL;rw[if_pos add_fri];exact addIn_fri
theorem wf_age:∀ x ∈ wAge,x.wf:=fun x hx=>by
 simp [wAge] at hx
 rcases hx with rfl | rfl | rfl <;> exact⟨by decide,by decide,by decide⟩
theorem wf_fri:∀ x ∈ wFri,x.wf:=fun x hx=>by
 simp [wFri] at hx
 rcases hx with rfl | rfl <;> exact⟨by decide,by decide,by decide⟩
section
variable {w W:World} {R:Nat→Prop} {p S:Nat}
theorem lx_add_age(h:Lxl w W R p { s:=cAge })(hS:W.heap[S]?=some (.cells (wAge.flatMap Wr.enc).toArray 61 (0,0)))(hR:¬ R S) :
  Calls Tryz.prog 31 #[vP p,.agg #[.int .u64 1,.slice (some ⟨S,0,none⟩) 3 3]] W (LxAdd w W R p lAge):=by
 have:=lxl_add h fine_age (by decide) ⟨1,some ⟨S,0,none⟩,3,3⟩ wAge S (rowsK_of_block (enc:=Wr.enc) (n:=8) (fun _=>rfl) wAge hS (by simp) (by decide)) wf_age fun _=>hR
 rw[addPL_age] at this
 exact this
theorem lx_add_fri(h:Lxl w W R p { s:=cFri })(hS:W.heap[S]?=some (.cells (wFri.flatMap Wr.enc).toArray 61 (0,0)))(hR:¬ R S) :
  Calls Tryz.prog 31 #[vP p,.agg #[.int .u64 1,.slice (some ⟨S,0,none⟩) 2 2]] W (LxAdd w W R p lFri):=by
 have:=lxl_add h fine_fri (by decide) ⟨1,some ⟨S,0,none⟩,2,2⟩ wFri S (rowsK_of_block (enc:=Wr.enc) (n:=8) (fun _=>rfl) wFri hS (by simp) (by decide)) wf_fri fun _=>hR
 rw[addPL_fri] at this
 exact this
def LxNums(W:World)(xs:List Int)(e:Ending)(w':World):Prop:=∃ v b,e = .returned (.tuple #[v,.int .i64 0])∧Ints .u64 w' b v xs∧Fr N0 W w'
theorem newInts_nums{P:Int→Prop}{xs:List Int}{v:Value}{w':World}(h:NewInts W P (.returned v) w')(hx:∀ ys,RisesBy id ys→(∀ u,u ∈ ys↔P u)→ys=xs)(hw:∀ x ∈ xs,(Lit.int .u64 x).wf=true):LxNums W xs (.returned (.tuple #[v,.int .i64 0])) w':=by
 obtain⟨v',ys,e,h1,h2,h3,h4⟩:=h
 injection e with e
 subst e
 obtain rfl:=hx ys h2 h3
 obtain⟨b,-,hI⟩:=ints_rowH h1 hw
 exact⟨v,b,rfl,hI,h4⟩
theorem lx_pre{l:PL}{fn:Fn}{vv uv sv:Value}{b:Nat}(h:Lxl w W R p l)(hl:l.AtOk 3)(hf:FnAt W b fn vv uv sv):∃ ks,FindPre W R p l 3 1 ks fn vv uv sv b:=by
 obtain⟨ks,hk⟩:=exists_nodes l 1
 exact⟨ks,h.1,fun k hk=>(h.2.1 k hk).2,hl,by decide,hk,hf⟩
theorem lx_find_eq(h:Lxl w W R p lAge)(hS:W.heap[S]?=some (.cells ([numV 5,numV 9].flatMap Val.enc).toArray 57 (0,0))) :
  Calls Tryz.prog 41 #[vP p,.agg #[.int .u8 3,.string bAge,.bool false,.slice (some ⟨S,0,none⟩) 2 2,.slice none 0 0,.slice none 0 0],.int .u64 1] W (LxNums W [1,3]):=by
 have hf:FnAt W S qEq (.slice (some ⟨S,0,none⟩) 2 2) (.slice none 0 0) (.slice none 0 0):=⟨rowsK_of_block val_len [numV 5,numV 9] hS (by simp) (by decide),fun x hx=>(by
  simp [qEq] at hx
  rcases hx with rfl | rfl <;> decide),by decide,⟨_,_,rfl⟩,⟨_,_,rfl⟩⟩
 obtain⟨ks,hp⟩:=lx_pre h at_age hf
 refine(ifind_eq hp rfl).mono fun e w' hq=>?_
 obtain⟨v,rfl,hn⟩:=hq.2.2 fits_eq (by decide)
 exact newInts_nums hn (fun ys h1 h2=>xs_eq h1 h2) (by decide)
theorem lx_find_has(h:Lxl w W R p lFri) :
  Calls Tryz.prog 41 #[vP p,.agg #[.int .u8 2,.string bFri,.bool true,.slice none 0 0,.slice none 0 0,.slice none 0 0],.int .u64 1] W (LxNums W [2,3]):=by
 have hf:FnAt W 0 qHas (.slice none 0 0) (.slice none 0 0) (.slice none 0 0):=⟨RowsK.nil _ _ _ _,fun x hx=>(by cases hx),by decide,⟨_,_,rfl⟩,⟨_,_,rfl⟩⟩
 obtain⟨ks,hp⟩:=lx_pre h at_fri hf
 refine(ifind_has hp rfl).mono fun e w' hq=>?_
 obtain⟨v,rfl,hn⟩:=hq.2.2 fits_has (by decide)
 exact newInts_nums hn (fun ys h1 h2=>xs_has hp.ks h1 h2) (by decide)
theorem lx_find_lt(h:Lxl w W R p lFri)(hS:W.heap[S]?=some (.cells ([numV 3].flatMap Val.enc).toArray 57 (0,0))) :
  Calls Tryz.prog 41 #[vP p,.agg #[.int .u8 6,.string bFri,.bool false,.slice (some ⟨S,0,none⟩) 1 1,.slice none 0 0,.slice none 0 0],.int .u64 1] W fun e w'=>e = .returned (.tuple #[.slice none 0 0,.int .i64 42])∧Fr N0 W w':=by
 have hf:FnAt W S qLt (.slice (some ⟨S,0,none⟩) 1 1) (.slice none 0 0) (.slice none 0 0):=⟨rowsK_of_block val_len [numV 3] hS (by simp) (by decide),fun x hx=>(by
  simp [qLt] at hx
  subst hx;decide),by decide,⟨_,_,rfl⟩,⟨_,_,rfl⟩⟩
 obtain⟨ks,hp⟩:=lx_pre h at_fri hf
 have h42:fnFits lFri.s qLt=42:=fits_lt
 have:=ifind_no hp (by decide) (by rw[h42];decide)
 rw[h42] at this
 exact this
theorem rk_age:∀ u ∈ [(3:Int),2,1,4],(rkOf (haveAt lAge 1) u).Ok:=fun u hu=>by
 rw[have_age]
 simp only [List.mem_cons,List.not_mem_nil,or_false] at hu
 rcases hu with rfl | rfl | rfl | rfl <;> simp [rkOf,numV] <;> exact⟨by decide,by decide⟩
theorem lx_order(h:Lxl w W R p lAge)(hS:W.heap[S]?=some (.cells #[.int .u64 3,.int .u64 2,.int .u64 1,.int .u64 4] 33 (0,0))) :
  Calls Tryz.prog 27 #[vP p,.int .u64 1,.bool true,.slice (some ⟨S,0,none⟩) 4 4] W (LxNums W [2,1,3,4]):=by
 refine(iorder_any W R p lAge 3 h.1 (fun k hk=>(h.2.1 k hk).2) at_age (by decide) 1 true S _ [3,2,1,4] (rowsK_of_block (enc:=enc4) (n:=1) ins4_len [3,2,1,4] hS rfl (by decide)) (by decide) rk_age rfl rfl (by decide)).mono fun e w' hq=>?_
 obtain⟨v,xs,rfl,h1,h2,h3⟩:=hq
 obtain rfl:=xs_ord h2
 obtain⟨b,-,hI⟩:=ints_rowH h1 (by decide)
 exact⟨v,b,rfl,hI,h3⟩
end
end
section
open Go.RowKit Go.Shelf Go.Maps
attribute [local go_sem] Oper.semAt_some
attribute [local irreducible] wpQuiet
noncomputable def lyB(n:Nat):Code:=lvSuf n ((Tryz.f24.body).getD .skip)
theorem ly0{K:Act→World→Prop}{Q:Exit→Act→World→Prop}(W:World)(f:Nat→Value)(hK:∀ f',K (frA 110 f') W) :
  Code.wp Tryz.prog (lvFst (lyB 0)) (Exit.then K Q) (frA 110 f) W:=by
 have HK:=hhd hK
 clear hK
 show Code.wp _ _ _ { tmps:=#[f 0,f 1,f 2,f 3,f 4,f 5,f 6,f 7,f 8,f 9,f 10,f 11,f 12,f 13,f 14,f 15,f 16,f 17,f 18,f 19,f 20,f 21,f 22,f 23,f 24,f 25,f 26,f 27,f 28,f 29,f 30,f 31,f 32,f 33,f 34,f 35,f 36,f 37,f 38,f 39,f 40,f 41,f 42,f 43,f 44,f 45,f 46,f 47,f 48,f 49,f 50,f 51,f 52,f 53,f 54,f 55,f 56,f 57,f 58,f 59,f 60,f 61,f 62,f 63,f 64,f 65,f 66,f 67,f 68,f 69,f 70,f 71,f 72,f 73,f 74,f 75,f 76,f 77,f 78,f 79,f 80,f 81,f 82,f 83,f 84,f 85,f 86,f 87,f 88,f 89,f 90,f 91,f 92,f 93,f 94,f 95,f 96,f 97,f 98,f 99,f 100,f 101,f 102,f 103,f 104,f 105,f 106,f 107,f 108,f 109],defers:=[] } _
 conv=>arg 2;whnf
 go_wp2_with fail
 refine cut_use (n:=110) (K:=K) _ rfl ?_
 exact HK.out _
theorem ly1{K:Act→World→Prop}{Q:Exit→Act→World→Prop}(w W:World)(f:Nat→Value)(hf:Fr N0 w W)
  (hK:∀ f' W' p,f' 1=vP p→f' 2 = .int .i64 0→W.heap.size≤p→Lxl w W' (fun k=>k=p) p { s:=cAge }→Fr N0 W W'→K (frA 110 f') W') :
  Code.wp Tryz.prog (lvFst (lyB 1)) (Exit.then K Q) (frA 110 f) W:=by
 have HK:=hhd hK;have HN:=hhd (lxl_new w W hf cAge may_age)
 clear hK hf
 simp only [Sch.enc,cAge,bAge] at HN
 show Code.wp _ _ _ { tmps:=#[f 0,f 1,f 2,f 3,f 4,f 5,f 6,f 7,f 8,f 9,f 10,f 11,f 12,f 13,f 14,f 15,f 16,f 17,f 18,f 19,f 20,f 21,f 22,f 23,f 24,f 25,f 26,f 27,f 28,f 29,f 30,f 31,f 32,f 33,f 34,f 35,f 36,f 37,f 38,f 39,f 40,f 41,f 42,f 43,f 44,f 45,f 46,f 47,f 48,f 49,f 50,f 51,f 52,f 53,f 54,f 55,f 56,f 57,f 58,f 59,f 60,f 61,f 62,f 63,f 64,f 65,f 66,f 67,f 68,f 69,f 70,f 71,f 72,f 73,f 74,f 75,f 76,f 77,f 78,f 79,f 80,f 81,f 82,f 83,f 84,f 85,f 86,f 87,f 88,f 89,f 90,f 91,f 92,f 93,f 94,f 95,f 96,f 97,f 98,f 99,f 100,f 101,f 102,f 103,f 104,f 105,f 106,f 107,f 108,f 109],defers:=[] } _
 conv=>arg 2;whnf
 go_wp2_with fail
 refine HN.out.mono ?_
 rintro e w1 ⟨p,rfl,hp,hl,hf1⟩
 have HP:=hhd hp;have HL:=hhd hl;have HF:=hhd hf1
 clear hp hl hf1 HN
 go_wp2_with fail
 refine cut_use (n:=110) (K:=K) _ rfl ?_
 exact HK.out _ w1 p rfl rfl HP.out HL.out HF.out
theorem ly2{K:Act→World→Prop}{Q:Exit→Act→World→Prop}(w W:World)(f:Nat→Value)(hf:Fr N0 w W)(q:Nat)(h1:f 1=vP q)(h2:f 2 = .int .i64 0)
  (hK:∀ f' W' p,f' 1=vP q→f' 2 = .int .i64 0→f' 3=vP p→f' 4 = .int .i64 0→W.heap.size≤p→Lxl w W' (fun k=>k=p) p { s:=cFri }→Fr N0 W W'→K (frA 110 f') W') :
  Code.wp Tryz.prog (lvFst (lyB 2)) (Exit.then K Q) (frA 110 f) W:=by
 have HK:=hhd hK;have HN:=hhd (lxl_new w W hf cFri may_fri)
 clear hK hf
 simp only [Sch.enc,cFri,bFri] at HN
 show Code.wp _ _ _ { tmps:=#[f 0,f 1,f 2,f 3,f 4,f 5,f 6,f 7,f 8,f 9,f 10,f 11,f 12,f 13,f 14,f 15,f 16,f 17,f 18,f 19,f 20,f 21,f 22,f 23,f 24,f 25,f 26,f 27,f 28,f 29,f 30,f 31,f 32,f 33,f 34,f 35,f 36,f 37,f 38,f 39,f 40,f 41,f 42,f 43,f 44,f 45,f 46,f 47,f 48,f 49,f 50,f 51,f 52,f 53,f 54,f 55,f 56,f 57,f 58,f 59,f 60,f 61,f 62,f 63,f 64,f 65,f 66,f 67,f 68,f 69,f 70,f 71,f 72,f 73,f 74,f 75,f 76,f 77,f 78,f 79,f 80,f 81,f 82,f 83,f 84,f 85,f 86,f 87,f 88,f 89,f 90,f 91,f 92,f 93,f 94,f 95,f 96,f 97,f 98,f 99,f 100,f 101,f 102,f 103,f 104,f 105,f 106,f 107,f 108,f 109],defers:=[] } _
 rw[h1,h2]
 clear h1 h2
 conv=>arg 2;whnf
 go_wp2_with fail
 refine HN.out.mono ?_
 rintro e w1 ⟨p,rfl,hp,hl,hf1⟩
 have HP:=hhd hp;have HL:=hhd hl;have HF:=hhd hf1
 clear hp hl hf1 HN
 go_wp2_with fail
 refine cut_use (n:=110) (K:=K) _ rfl ?_
 exact HK.out _ w1 p rfl rfl rfl rfl HP.out HL.out HF.out
theorem ly3{K:Act→World→Prop}{Q:Exit→Act→World→Prop}(W:World)(f:Nat→Value)(q p:Nat)(h1:f 1=vP q)(h2:f 2 = .int .i64 0)(h3:f 3=vP p)(h4:f 4 = .int .i64 0)
  (hK:∀ f',f' 1=vP q→f' 3=vP p→K (frA 110 f') W) :
  Code.wp Tryz.prog (lvFst (lyB 3)) (Exit.then K Q) (frA 110 f) W:=by
 have HK:=hhd hK
 clear hK
 show Code.wp _ _ _ { tmps:=#[f 0,f 1,f 2,f 3,f 4,f 5,f 6,f 7,f 8,f 9,f 10,f 11,f 12,f 13,f 14,f 15,f 16,f 17,f 18,f 19,f 20,f 21,f 22,f 23,f 24,f 25,f 26,f 27,f 28,f 29,f 30,f 31,f 32,f 33,f 34,f 35,f 36,f 37,f 38,f 39,f 40,f 41,f 42,f 43,f 44,f 45,f 46,f 47,f 48,f 49,f 50,f 51,f 52,f 53,f 54,f 55,f 56,f 57,f 58,f 59,f 60,f 61,f 62,f 63,f 64,f 65,f 66,f 67,f 68,f 69,f 70,f 71,f 72,f 73,f 74,f 75,f 76,f 77,f 78,f 79,f 80,f 81,f 82,f 83,f 84,f 85,f 86,f 87,f 88,f 89,f 90,f 91,f 92,f 93,f 94,f 95,f 96,f 97,f 98,f 99,f 100,f 101,f 102,f 103,f 104,f 105,f 106,f 107,f 108,f 109],defers:=[] } _
 rw[h1,h2,h3,h4]
 clear h1 h2 h3 h4
 conv=>arg 2;whnf
 go_wp2_with fail
 refine cut_use (n:=110) (K:=K) _ rfl ?_
 exact HK.out _ rfl rfl
def vPut:Value:=.func (.func 75) #[] #[]
theorem ly4{K:Act→World→Prop}{Q:Exit→Act→World→Prop}(W:World)(f:Nat→Value)(q p:Nat)(h1:f 1=vP q)(h3:f 3=vP p)
  (hK:∀ f',f' 1=vP q→f' 3=vP p→f' 5=vPut→K (frA 110 f') W) :
  Code.wp Tryz.prog (lvFst (lyB 4)) (Exit.then K Q) (frA 110 f) W:=by
 have HK:=hhd hK
 clear hK
 show Code.wp _ _ _ { tmps:=#[f 0,f 1,f 2,f 3,f 4,f 5,f 6,f 7,f 8,f 9,f 10,f 11,f 12,f 13,f 14,f 15,f 16,f 17,f 18,f 19,f 20,f 21,f 22,f 23,f 24,f 25,f 26,f 27,f 28,f 29,f 30,f 31,f 32,f 33,f 34,f 35,f 36,f 37,f 38,f 39,f 40,f 41,f 42,f 43,f 44,f 45,f 46,f 47,f 48,f 49,f 50,f 51,f 52,f 53,f 54,f 55,f 56,f 57,f 58,f 59,f 60,f 61,f 62,f 63,f 64,f 65,f 66,f 67,f 68,f 69,f 70,f 71,f 72,f 73,f 74,f 75,f 76,f 77,f 78,f 79,f 80,f 81,f 82,f 83,f 84,f 85,f 86,f 87,f 88,f 89,f 90,f 91,f 92,f 93,f 94,f 95,f 96,f 97,f 98,f 99,f 100,f 101,f 102,f 103,f 104,f 105,f 106,f 107,f 108,f 109],defers:=[] } _
 rw[h1,h3]
 clear h1 h3
 conv=>arg 2;whnf
 go_wp2_with fail
 refine cut_use (n:=110) (K:=K) _ rfl ?_
 exact HK.out _ rfl rfl rfl
end
end Go.Proofs.YtefepfiijoafbaaGreat
