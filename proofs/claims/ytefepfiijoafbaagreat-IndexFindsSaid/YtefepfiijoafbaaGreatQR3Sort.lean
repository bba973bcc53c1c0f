/- R3SortU R3SortV R3Sort -/
import Derived.Deep.AppendLies
import Derived.Deep.DrawnRows
import Derived.Deep.RegionHeld3
import Derived.BigQuiet
import Derived.Test.YtefepfiijoafbaaGreatQR3SortT
import Derived.Test.YtefepfiijoafbaaGreatQValR
set_option linter.unusedVariables false
set_option linter.unusedSimpArgs false
set_option maxRecDepth 100000
set_option maxHeartbeats 8000000
namespace Go.Proofs.YtefepfiijoafbaaGreat
section
open Go.RowKit Go.Shelf Go.Maps
attribute [local go_sem] Oper.semAt_some
attribute [local irreducible] wpQuiet
def srSnd:Code→Code
 | .seq _ b=>b
 | c=>c
def srLoop:Code→Code
 | .loop c=>c
 | c=>c
def srIn:Code→Code
 | .block _ c=>c
 | c=>c
noncomputable def srI(n:Nat):Code:=lvSuf n (srIn (lvFst (srSnd (srLoop (srIn (srSnd (lvFst (lvSuf 2 ((Tryz.f242.body).getD .skip)))))))))
def zeroV:Val:=⟨0,false,0,⟨#[]⟩,0⟩
theorem srTail{Q:Exit→Act→World→Prop}(W:World)(f:Nat→Value)(base b off n cap i kk:Nat)(v:Value)(os:List Val)(y:Val)(hr:VRow W base v os)(hb:base≤W.heap.size)(hbb:b < base)(hm:os.length≤10000000000)(hk:kk≤os.length)(hin:i < n)
  (h0:f 0 = .slice (some ⟨b,off,none⟩) n cap) (h3:f 3=v) (h4:f 4 = .int .i64 i) (h5:f 5 = .int .i64 kk)
  (hy:∀ c,c < 5→W.cell? ⟨b,off+i * 5+c,none⟩=y.enc[c]?)
  (hQ:∀ (f':Nat→Value) W' v',f' 0 = .slice (some ⟨b,off,none⟩) n cap→f' 1=f 1→f' 2=f 2→f' 3=v'→f' 4 = .int .i64 i→f' 73=f 73→VRow W' base v' (gapV os kk y)→Fr (fun q=>base≤q) W W'→Q .normal (frA 74 f') W') :
  Code.wp Tryz.prog (srI 3) Q (frA 74 f) W:=by
 obtain⟨i0,hi,hz0,hz1,hz2⟩:=info_parts val_info
 obtain⟨m,hmm⟩:∃ m,os.length=m:=⟨_,rfl⟩
 have HM:=hhd hmm
 have hrow:W.ownsRow base 57 5 v m (os.flatMap Val.enc):=by rw[← hmm];exact hr
 have hform:=hr.vform
 rw[hmm] at hform hm hk
 obtain⟨oa,oc,rfl⟩:=hform
 have HY:=hhd hy;have HQ:=hhd hQ
 obtain⟨yk,yb,yn,ys,yu⟩:=y
 clear hy hQ hr hmm
 show Code.wp _ _ _ { tmps:=#[f 0,f 1,f 2,f 3,f 4,f 5,f 6,f 7,f 8,f 9,f 10,f 11,f 12,f 13,f 14,f 15,f 16,f 17,f 18,f 19,f 20,f 21,f 22,f 23,f 24,f 25,f 26,f 27,f 28,f 29,f 30,f 31,f 32,f 33,f 34,f 35,f 36,f 37,f 38,f 39,f 40,f 41,f 42,f 43,f 44,f 45,f 46,f 47,f 48,f 49,f 50,f 51,f 52,f 53,f 54,f 55,f 56,f 57,f 58,f 59,f 60,f 61,f 62,f 63,f 64,f 65,f 66,f 67,f 68,f 69,f 70,f 71,f 72,f 73],defers:=[] } _
 rw[h0,h3,h4,h5]
 clear h0 h3 h4 h5
 conv=>arg 2;whnf
 go_wp2_with (at_builtin;go_loud (refine wpList_append_lies _ rfl _ _ 91 rfl (base) 57 i0 (.agg #[.int .u8 0,.bool false,.int .i64 0,.string ⟨#[]⟩,.int .u64 0]) 5 40 Tryz.underlying91 hi hz0 hz1 hz2 rfl (by decide) (.slice oa m oc) (m) _ rfl (hrow.alloc _) ⟨W.heap.size,0,none⟩ 1 1 ([.int .u8 0,.bool false,.int .i64 0,.string ⟨#[]⟩,.int .u64 0]) rfl rfl (World.news_of_block (cs:=([.int .u8 0,.bool false,.int .i64 0,.string ⟨#[]⟩,.int .u64 0]).toArray) (t:=57) (fr:=(0,0)) (heap_alloc_new W _)) (by simp [Value.oneCell']) (by omega) (by unfold maxLen;omega) (by omega) (by simp;omega) (W.heap.size+1) (by simp) ?_);intro g1 cap1 w3 hown3 hgrow3 hfresh3 hlt3)
 have hfa:Fr (fun q=>(Value.slice oa m oc).ownBlock=some q) _ w3:=(Fr.refl _ _).grown hgrow3 fun q e=>.inl e
 have hf3:Fr (fun q=>base≤q) W w3:=((Fr.refl (fun q=>base≤q) W).alloc _).trans hfa fun q hq=>.inl (ownsRow_lt hrow q hq).1
 have hV3:VRow w3 base (.slice (some ⟨g1,0,none⟩) (m+1) cap1) (gapV os m zeroV):=by
  have hl:(gapV os m zeroV).length=m+1:=by rw[gapV_len (by rw[HM.out];exact Nat.le_refl _),HM.out]
  have e:gapV os m zeroV=os ++ [zeroV]:=by rw[← HM.out];exact gapV_end os zeroV
  unfold VRow
  rw[hl,e,List.flatMap_append]
  exact hown3
 have hgb:base≤g1:=(ownsRow_lt hown3 g1 rfl).1
 have HF3:=hhd hf3;have HV3:=hhd hV3
 clear hown3 hgrow3 hfresh3 hfa hf3 hV3 hrow hi hz0 hz1 hz2
 go_loopw [6] (fun jv wr=>∃ (j:Nat) (s:Val),kk≤j∧j≤m∧jv = .int .i64 j∧Hid (VRow wr base (.slice (some ⟨g1,0,none⟩) (m+1) cap1) (gapV os j s))∧Hid (Fr (fun q=>base≤q) W wr)) (fun jv _=>(intOf jv).toNat)
 case atStart=>exact⟨m,zeroV,hk,Nat.le_refl _,by first | rfl | go_num,HV3,HF3⟩
 case round=>
  obtain⟨j,s,hkj,hjm,rfl,hV,hF⟩:=hrel
  have hgl:(gapV os j s).length=m+1:=by rw[gapV_len (by rw[HM.out];exact hjm),HM.out]
  by_cases hlt:kk < j
  ·obtain⟨hh,hat⟩:=gapV_at (os:=os) (j:=j) (s:=s) (by rw[HM.out];omega) (by omega)
   obtain⟨c0,c1,c2,c3,c4⟩:=hV.out.cells hgl.symm (j - 1) hh
   rw[hat] at c0 c1 c2 c3 c4
   obtain⟨dq,d0,d1,d2,d3,d4⟩:=hV.out.some_cells hgl.symm j (by rw[hgl];omega)
   have hset:=hV.out.set hgl.symm j (by rw[hgl];omega) (os[j - 1]'(by rw[HM.out];omega))
   rw[gapV_move (by rw[HM.out];exact hjm) (by omega)] at hset
   have hVo:wr.ownsRow base 57 5 (.slice (some ⟨g1,0,none⟩) (m+1) cap1) (m+1) ((gapV os j s).flatMap Val.enc):=by have h:=hV.out;unfold VRow at h;rwa [hgl] at h
   have f1:=hVo.frozenAt (j * 5);have f2:=hVo.frozenAt (j * 5+1);have f3:=hVo.frozenAt (j * 5+2);have f4:=hVo.frozenAt (j * 5+3);have f5:=hVo.frozenAt (j * 5+4)
   obtain⟨q,hq⟩:∃ q,os[j - 1]'(by rw[HM.out];omega)=q:=⟨_,rfl⟩
   rw[hq] at c0 c1 c2 c3 c4 hset
   have hfs:Fr (fun q=>base≤q) W (vset wr g1 j q):=fr_vset hF.out g1 j q hgb
   obtain⟨qk,qb,qn,qs,qu⟩:=q
   have HSET:=hhd hset;have HFS:=hhd hfs
   have hj1:(j:Int) - 1=((j - 1:Nat):Int):=by omega
   have hjk:(kk:Int) < (j:Int):=by omega
   have hji:((j - 1:Nat):Int) < ((m+1:Nat):Int):=by omega
   have hji2:(j:Int) < ((m+1:Nat):Int):=by omega
   have hj11:j - 1 < m+1:=by omega
   have hj12:j < m+1:=by omega
   clear hat hset hfs hq hV hF hgl hh hVo
   go_wp2_with fail
   go_roundw
   case rel=>exact⟨j - 1,_,by omega,by omega,by first | rfl | go_num | (congr 1;omega),HSET,HFS⟩
   case measure=>simp [intOf];omega
  ·obtain rfl:kk=j:=by omega
   have hjk:¬(kk:Int) < (kk:Int):=by omega
   have hnb:¬ base≤b:=by omega
   have y0:W.cell? ⟨b,off+i * 5,none⟩=some (.int .u8 yk):=HY.out 0 (by decide)
   have y1:W.cell? ⟨b,off+i * 5+1,none⟩=some (.bool yb):=HY.out 1 (by decide)
   have y2:W.cell? ⟨b,off+i * 5+2,none⟩=some (.int .i64 yn):=HY.out 2 (by decide)
   have y3:W.cell? ⟨b,off+i * 5+3,none⟩=some (.string ys):=HY.out 3 (by decide)
   have y4:W.cell? ⟨b,off+i * 5+4,none⟩=some (.int .u64 yu):=HY.out 4 (by decide)
   have c0:=hF.out.cell hnb y0;have c1:=hF.out.cell hnb y1;have c2:=hF.out.cell hnb y2;have c3:=hF.out.cell hnb y3;have c4:=hF.out.cell hnb y4
   clear y0 y1 y2 y3 y4
   obtain⟨dq,d0,d1,d2,d3,d4⟩:=hV.out.some_cells hgl.symm kk (by rw[hgl];omega)
   have hset:=hV.out.set hgl.symm kk (by rw[hgl];omega) ⟨yk,yb,yn,ys,yu⟩
   rw[gapV_put (by rw[HM.out];exact hjm)] at hset
   have hVo:wr.ownsRow base 57 5 (.slice (some ⟨g1,0,none⟩) (m+1) cap1) (m+1) ((gapV os kk s).flatMap Val.enc):=by have h:=hV.out;unfold VRow at h;rwa [hgl] at h
   have f1:=hVo.frozenAt (kk * 5);have f2:=hVo.frozenAt (kk * 5+1);have f3:=hVo.frozenAt (kk * 5+2);have f4:=hVo.frozenAt (kk * 5+3);have f5:=hVo.frozenAt (kk * 5+4)
   have hfs:Fr (fun q=>base≤q) W (vset wr g1 kk ⟨yk,yb,yn,ys,yu⟩):=fr_vset hF.out g1 kk _ hgb
   have HSET:=hhd hset;have HFS:=hhd hfs
   have hji2:(kk:Int) < ((m+1:Nat):Int):=by omega
   have hj12:kk < m+1:=by omega
   have hin':(i:Int) < (n:Int):=by omega
   clear hset hfs hV hF hgl hVo
   go_wp2_with fail
   rw[cut_mk (n:=74) _ rfl]
   exact HQ.out _ _ _ rfl rfl rfl rfl rfl rfl HSET.out HFS.out
end
section
open Go.RowKit Go.Shelf Go.Maps
attribute [local go_sem] Oper.semAt_some
attribute [local go_sem ↓] Go.wp_at_zero Go.wp_at_succ
attribute [local irreducible] wpQuiet
noncomputable def srB(n:Nat):Code:=lvSuf n ((Tryz.f242.body).getD .skip)
noncomputable def srL:Code:=srLoop (srIn (srSnd (lvFst (srB 2))))
noncomputable def srAL:Code:=srLoop (srIn (lvFst (srI 1)))
theorem srL_eq:srL = .seq (lvFst srL) (.seq (.block 1 (srI 0)) (srSnd (srSnd srL))):=by kernel_rfl
theorem srI0_eq:srI 0 = .seq (lvFst (srI 0)) (.seq (.block 2 (.loop srAL)) (.seq (lvFst (srI 2)) (srI 3))):=by kernel_rfl
theorem srAL_eq:srAL = .seq (lvFst srAL) (.block 3 (srIn (srSnd srAL))):=by kernel_rfl
theorem wrap_i64{x:Int}(h1:-9223372036854775808≤x)(h2:x≤9223372036854775807):IntKind.i64.wrap x=x:=by
 simp [IntKind.wrap,IntKind.bits,IntKind.signed]
 omega
structure SrF(f:Nat→Value)(b off n cap i:Nat)(v:Value):Prop where
 h0:f 0 = .slice (some ⟨b,off,none⟩) n cap
 h3:f 3=v
 h4:f 4 = .int .i64 i
abbrev Five(b p:Nat)(y:Val)(W:World):Prop:=W.cell? ⟨b,p,none⟩=some (.int .u8 y.k)∧W.cell? ⟨b,p+1,none⟩=some (.bool y.b)∧W.cell? ⟨b,p+2,none⟩=some (.int .i64 y.n)∧W.cell? ⟨b,p+3,none⟩=some (.string y.s)∧W.cell? ⟨b,p+4,none⟩=some (.int .u64 y.u)
theorem five_fr{b p:Nat}{y:Val}{W W':World}(h:Five b p y W)(hf:Fr N0 W W'):Five b p y W':=⟨hf.cell id h.1,hf.cell id h.2.1,hf.cell id h.2.2.1,hf.cell id h.2.2.2.1,hf.cell id h.2.2.2.2⟩
abbrev Five2(b p:Nat)(y:Val)(g q:Nat)(z:Val)(W:World):Prop:=Five b p y W∧Five g q z W
theorem five2_fr{b p g q:Nat}{y z:Val}{W W':World}(h:Five2 b p y g q z W)(hf:Fr N0 W W'):Five2 b p y g q z W':=⟨five_fr h.1 hf,five_fr h.2 hf⟩
theorem srR5{K:Act→World→Prop}{Q:Exit→Act→World→Prop}(W:World)(f:Nat→Value)(b off n cap i m oc:Nat)(oa:Option Addr)(h:SrF f b off n cap i (.slice oa m oc))
  (hK:∀ f',SrF f' b off n cap i (.slice oa m oc)→f' 5 = .int .i64 m→K (frA 74 f') W) :
  Code.wp Tryz.prog (lvFst (srI 0)) (Exit.then K Q) (frA 74 f) W:=by
 have HK:=hhd hK
 obtain⟨h0,h3,h4⟩:=h
 clear hK
 show Code.wp _ _ _ { tmps:=#[f 0,f 1,f 2,f 3,f 4,f 5,f 6,f 7,f 8,f 9,f 10,f 11,f 12,f 13,f 14,f 15,f 16,f 17,f 18,f 19,f 20,f 21,f 22,f 23,f 24,f 25,f 26,f 27,f 28,f 29,f 30,f 31,f 32,f 33,f 34,f 35,f 36,f 37,f 38,f 39,f 40,f 41,f 42,f 43,f 44,f 45,f 46,f 47,f 48,f 49,f 50,f 51,f 52,f 53,f 54,f 55,f 56,f 57,f 58,f 59,f 60,f 61,f 62,f 63,f 64,f 65,f 66,f 67,f 68,f 69,f 70,f 71,f 72,f 73],defers:=[] } _
 rw[h0,h3,h4]
 clear h0 h3 h4
 conv=>arg 2;whnf
 go_wp2_with fail
 refine cut_use (n:=74) (K:=K) _ rfl ?_
 exact HK.out _ ⟨rfl,rfl,rfl⟩ rfl
theorem srR7{K:Act→World→Prop}{Q:Exit→Act→World→Prop}(W:World)(f:Nat→Value)(b off n cap i k:Nat)(v:Value)(h:SrF f b off n cap i v)(h5:f 5 = .int .i64 k)(hk:0 < k)(hk2:k≤10000000000)
  (hK:∀ f',SrF f' b off n cap i v→f' 5 = .int .i64 ((k - 1:Nat):Int)→K (frA 74 f') W) :
  Code.wp Tryz.prog (srIn (srSnd srAL)) (Exit.then K Q) (frA 74 f) W:=by
 have HK:=hhd hK
 obtain⟨h0,h3,h4⟩:=h
 have hj1:(k:Int) - 1=((k - 1:Nat):Int):=by omega
 clear hK
 show Code.wp _ _ _ { tmps:=#[f 0,f 1,f 2,f 3,f 4,f 5,f 6,f 7,f 8,f 9,f 10,f 11,f 12,f 13,f 14,f 15,f 16,f 17,f 18,f 19,f 20,f 21,f 22,f 23,f 24,f 25,f 26,f 27,f 28,f 29,f 30,f 31,f 32,f 33,f 34,f 35,f 36,f 37,f 38,f 39,f 40,f 41,f 42,f 43,f 44,f 45,f 46,f 47,f 48,f 49,f 50,f 51,f 52,f 53,f 54,f 55,f 56,f 57,f 58,f 59,f 60,f 61,f 62,f 63,f 64,f 65,f 66,f 67,f 68,f 69,f 70,f 71,f 72,f 73],defers:=[] } _
 rw[h0,h3,h4,h5]
 clear h0 h3 h4 h5
 conv=>arg 2;whnf
 go_wp2_with fail
 refine cut_use (n:=74) (K:=K) _ rfl ?_
 exact HK.out _ ⟨rfl,rfl,rfl⟩ (by first | rfl | (show Value.int .i64 _=_;congr 1))
theorem srR6z{K:Act→World→Prop}{Q:Exit→Act→World→Prop}(W:World)(f:Nat→Value)(b off n cap i:Nat)(v:Value)(h:SrF f b off n cap i v)(h5:f 5 = .int .i64 0)
  (hQ:∀ f' W',SrF f' b off n cap i v→f' 5 = .int .i64 0→Fr N0 W W'→Q (.exit 2) (frA 74 f') W') :
  Code.wp Tryz.prog (lvFst srAL) (Exit.then K Q) (frA 74 f) W:=by
 have HQ:=hhd hQ
 obtain⟨h0,h3,h4⟩:=h
 clear hQ
 show Code.wp _ _ _ { tmps:=#[f 0,f 1,f 2,f 3,f 4,f 5,f 6,f 7,f 8,f 9,f 10,f 11,f 12,f 13,f 14,f 15,f 16,f 17,f 18,f 19,f 20,f 21,f 22,f 23,f 24,f 25,f 26,f 27,f 28,f 29,f 30,f 31,f 32,f 33,f 34,f 35,f 36,f 37,f 38,f 39,f 40,f 41,f 42,f 43,f 44,f 45,f 46,f 47,f 48,f 49,f 50,f 51,f 52,f 53,f 54,f 55,f 56,f 57,f 58,f 59,f 60,f 61,f 62,f 63,f 64,f 65,f 66,f 67,f 68,f 69,f 70,f 71,f 72,f 73],defers:=[] } _
 rw[h0,h3,h4,h5]
 clear h0 h3 h4 h5
 conv=>arg 2;whnf
 go_wp2_with fail
 go_quiet (fail)
 go_wp2_with fail
 refine cut_useQ (n:=74) (Q:=Q) (e:=.exit 2) _ rfl ?_
 exact HQ.out _ _ ⟨rfl,rfl,rfl⟩ rfl ((Fr.refl N0 W).drewN _)
theorem srAL1_eq:lvFst srAL = .seq (lvFst (lvFst srAL)) (srSnd (lvFst srAL)):=by kernel_rfl
theorem srR6c{K:Act→World→Prop}{Q:Exit→Act→World→Prop}(W:World)(f:Nat→Value)(b off n cap i:Nat)(kv v:Value)(d:Bool)(h:SrF f b off n cap i v)(h5:f 5=kv)(h29:f 29 = .bool d)
  (hK:d=true→∀ f',SrF f' b off n cap i v→f' 5=kv→K (frA 74 f') W)
  (hQ:d=false→∀ f',SrF f' b off n cap i v→f' 5=kv→Q (.exit 2) (frA 74 f') W) :
  Code.wp Tryz.prog (srSnd (lvFst srAL)) (Exit.then K Q) (frA 74 f) W:=by
 have HK:=hhd hK;have HQ:=hhd hQ
 obtain⟨h0,h3,h4⟩:=h
 clear hK hQ
 show Code.wp _ _ _ { tmps:=#[f 0,f 1,f 2,f 3,f 4,f 5,f 6,f 7,f 8,f 9,f 10,f 11,f 12,f 13,f 14,f 15,f 16,f 17,f 18,f 19,f 20,f 21,f 22,f 23,f 24,f 25,f 26,f 27,f 28,f 29,f 30,f 31,f 32,f 33,f 34,f 35,f 36,f 37,f 38,f 39,f 40,f 41,f 42,f 43,f 44,f 45,f 46,f 47,f 48,f 49,f 50,f 51,f 52,f 53,f 54,f 55,f 56,f 57,f 58,f 59,f 60,f 61,f 62,f 63,f 64,f 65,f 66,f 67,f 68,f 69,f 70,f 71,f 72,f 73],defers:=[] } _
 rw[h0,h3,h4,h5,h29]
 clear h0 h3 h4 h5 h29
 conv=>arg 2;whnf
 cases d with
 | true=>
  go_wp2_with fail
  refine cut_use (n:=74) (K:=K) _ rfl ?_
  exact HK.out (by first | rfl | trivial) _ ⟨rfl,rfl,rfl⟩ rfl
 | false=>
  go_wp2_with fail
  refine cut_useQ (n:=74) (Q:=Q) (e:=.exit 2) _ rfl ?_
  exact HQ.out (by first | rfl | trivial) _ ⟨rfl,rfl,rfl⟩ rfl
theorem srR6r{K:Act→World→Prop}{Q:Exit→Act→World→Prop}(W:World)(f:Nat→Value)(b off n cap i k m oc g:Nat)(y z:Val)(hy:valMay y=true)(hz:valMay z=true)(h:SrF f b off n cap i (.slice (some ⟨g,0,none⟩) m oc))(h5:f 5 = .int .i64 ((k:Int)+1))(hkm:k < m)(hm:m≤10000000000)(hin:i < n)
  (hc:Five2 b (off+i * 5) y g (k * 5) z W)
  (hK:∀ f' W',SrF f' b off n cap i (.slice (some ⟨g,0,none⟩) m oc)→f' 5 = .int .i64 ((k:Int)+1)→f' 29 = .bool (decide (0 < vcmp z y))→Fr N0 W W'→K (frA 74 f') W') :
  Code.wp Tryz.prog (lvFst (lvFst srAL)) (Exit.then K Q) (frA 74 f) W:=by
 have HC:=hhd fun W'=>r3Cmp_any z y hz hy W'
 obtain⟨yk,yb,yn,ys,yu⟩:=y
 obtain⟨zk,zb,zn,zs,zu⟩:=z
 obtain⟨V,hV⟩:∃ V,vcmp ⟨zk,zb,zn,zs,zu⟩ ⟨yk,yb,yn,ys,yu⟩=V:=⟨_,rfl⟩
 simp only [Val.enc] at HC hc
 rw[hV] at hK
 simp only [hV] at HC
 have HK:=hhd hK
 have HF:=hhd (five2_fr hc (Fr.refl N0 W).drew)
 obtain⟨h0,h3,h4⟩:=h
 have hj2:(0:Int) < (k:Int)+1:=by omega
 have hj3:(k:Int) < (m:Int):=by omega
 have hj4:(0:Int)≤(k:Int):=by omega
 have hj5:(0:Int)≤(i:Int):=by omega
 have hj1:IntKind.i64.wrap ((k:Int)+1 - 1)=(k:Int):=by rw[show(k:Int)+1 - 1=(k:Int) by omega];exact wrap_i64 (by omega) (by omega)
 have hj6:IntKind.i64.wrap (k:Int)=(k:Int):=wrap_i64 (by omega) (by omega)
 have hin':(i:Int) < (n:Int):=by omega
 obtain⟨⟨y0,y1,y2,y3,y4⟩,z0,z1,z2,z3,z4⟩:=hc
 clear hK hV hy hz
 show Code.wp _ _ _ { tmps:=#[f 0,f 1,f 2,f 3,f 4,f 5,f 6,f 7,f 8,f 9,f 10,f 11,f 12,f 13,f 14,f 15,f 16,f 17,f 18,f 19,f 20,f 21,f 22,f 23,f 24,f 25,f 26,f 27,f 28,f 29,f 30,f 31,f 32,f 33,f 34,f 35,f 36,f 37,f 38,f 39,f 40,f 41,f 42,f 43,f 44,f 45,f 46,f 47,f 48,f 49,f 50,f 51,f 52,f 53,f 54,f 55,f 56,f 57,f 58,f 59,f 60,f 61,f 62,f 63,f 64,f 65,f 66,f 67,f 68,f 69,f 70,f 71,f 72,f 73],defers:=[] } _
 rw[h0,h3,h4,h5]
 clear h0 h3 h4 h5
 conv=>arg 2;whnf
 by_cases hv:0 < V
 ·have hd:decide (0 < V)=true:=by simpa using hv
  rw[hd] at HK
  clear hd
  go_region_held3 (Five2 b (off+i * 5) ⟨yk,yb,yn,ys,yu⟩ g (k * 5) ⟨zk,zb,zn,zs,zu⟩) (first
   |(with_reducible assumption)
   |(with_reducible exact HF.out)
   |(with_reducible exact hb3)
   | fail) (first
   |(go_simp;go_at_call 261;(refine(HC.out _).mono ?_;rintro e w3 ⟨rfl,hf3⟩;have hb3:=five2_fr HF.out hf3))
   | fail)
  all_goals
   refine cut_use (n:=74) (K:=K) _ rfl ?_
   exact HK.out _ _ ⟨rfl,rfl,rfl⟩ rfl rfl ((Fr.refl N0 W).drew.then0 hf3)
 ·have hd:decide (0 < V)=false:=by simpa using hv
  rw[hd] at HK
  clear hd
  go_region_held3 (Five2 b (off+i * 5) ⟨yk,yb,yn,ys,yu⟩ g (k * 5) ⟨zk,zb,zn,zs,zu⟩) (first
   |(with_reducible assumption)
   |(with_reducible exact HF.out)
   |(with_reducible exact hb3)
   | fail) (first
   |(go_simp;go_at_call 261;(refine(HC.out _).mono ?_;rintro e w3 ⟨rfl,hf3⟩;have hb3:=five2_fr HF.out hf3))
   | fail)
  all_goals
   refine cut_use (n:=74) (K:=K) _ rfl ?_
   exact HK.out _ _ ⟨rfl,rfl,rfl⟩ rfl (by first | rfl | (show Value.bool _=Value.bool _;congr 1;simp;omega)) ((Fr.refl N0 W).drew.then0 hf3)
theorem val_key(y z:Val):y=z∨(y≠z∧(y.k≠z.k∨(y.k=z.k∧y.b≠z.b)∨(y.k=z.k∧y.b=z.b∧y.n≠z.n)∨(y.k=z.k∧y.b=z.b∧y.n=z.n∧¬ y.s.toList=z.s.toList)∨(y.k=z.k∧y.b=z.b∧y.n=z.n∧y.s=z.s∧y.u≠z.u))):=by
 by_cases e:y=z
 ·exact .inl e
 ·refine .inr ⟨e,?_⟩
  by_cases e1:y.k=z.k
  ·by_cases e2:y.b=z.b
   ·by_cases e3:y.n=z.n
    ·by_cases e4:y.s=z.s
     ·by_cases e5:y.u=z.u
      ·exact absurd (val_ext.2 ⟨e1,e2,e3,e4,e5⟩) e
      ·exact .inr (.inr (.inr (.inr ⟨e1,e2,e3,e4,e5⟩)))
     ·exact .inr (.inr (.inr (.inl ⟨e1,e2,e3,toList_inj e4⟩)))
    ·exact .inr (.inr (.inl ⟨e1,e2,e3⟩))
   ·exact .inr (.inl ⟨e1,e2⟩)
  ·exact .inl e1
theorem srR8z{K:Act→World→Prop}{Q:Exit→Act→World→Prop}(W:World)(f:Nat→Value)(b off n cap i:Nat)(v:Value)(h:SrF f b off n cap i v)(h5:f 5 = .int .i64 0)
  (hK:∀ f' W',SrF f' b off n cap i v→f' 5 = .int .i64 0→Fr N0 W W'→K (frA 74 f') W') :
  Code.wp Tryz.prog (lvFst (srI 2)) (Exit.then K Q) (frA 74 f) W:=by
 have HK:=hhd hK
 obtain⟨h0,h3,h4⟩:=h
 clear hK
 show Code.wp _ _ _ { tmps:=#[f 0,f 1,f 2,f 3,f 4,f 5,f 6,f 7,f 8,f 9,f 10,f 11,f 12,f 13,f 14,f 15,f 16,f 17,f 18,f 19,f 20,f 21,f 22,f 23,f 24,f 25,f 26,f 27,f 28,f 29,f 30,f 31,f 32,f 33,f 34,f 35,f 36,f 37,f 38,f 39,f 40,f 41,f 42,f 43,f 44,f 45,f 46,f 47,f 48,f 49,f 50,f 51,f 52,f 53,f 54,f 55,f 56,f 57,f 58,f 59,f 60,f 61,f 62,f 63,f 64,f 65,f 66,f 67,f 68,f 69,f 70,f 71,f 72,f 73],defers:=[] } _
 rw[h0,h3,h4,h5]
 clear h0 h3 h4 h5
 conv=>arg 2;whnf
 go_wp2_with fail
 go_quiet (fail)
 go_wp2_with fail
 refine cut_use (n:=74) (K:=K) _ rfl ?_
 exact HK.out _ _ ⟨rfl,rfl,rfl⟩ rfl ((Fr.refl N0 W).drewN _)
theorem srR8{K:Act→World→Prop}{Q:Exit→Act→World→Prop}(W:World)(f:Nat→Value)(b off n cap i k m oc g:Nat)(y z:Val)(h:SrF f b off n cap i (.slice (some ⟨g,0,none⟩) m oc))(h5:f 5 = .int .i64 ((k:Int)+1))(hkm:k < m)(hm:m≤10000000000)(hin:i < n)
  (hc:Five2 b (off+i * 5) y g (k * 5) z W)
  (hK:z≠y→∀ f' W',SrF f' b off n cap i (.slice (some ⟨g,0,none⟩) m oc)→f' 5 = .int .i64 ((k:Int)+1)→Fr N0 W W'→K (frA 74 f') W')
  (hQ:z=y→∀ f' W',SrF f' b off n cap i (.slice (some ⟨g,0,none⟩) m oc)→Fr N0 W W'→Q (.exit 1) (frA 74 f') W') :
  Code.wp Tryz.prog (lvFst (srI 2)) (Exit.then K Q) (frA 74 f) W:=by
 have key:=val_key z y
 obtain⟨yk,yb,yn,ys,yu⟩:=y
 obtain⟨zk,zb,zn,zs,zu⟩:=z
 simp only at hc key
 have HK:=hhd hK;have HQ:=hhd hQ
 obtain⟨h0,h3,h4⟩:=h
 have hj2:(0:Int) < (k:Int)+1:=by omega
 have hj3:(k:Int) < (m:Int):=by omega
 have hj4:(0:Int)≤(k:Int):=by omega
 have hj5:(0:Int)≤(i:Int):=by omega
 have hj1:IntKind.i64.wrap ((k:Int)+1 - 1)=(k:Int):=by rw[show(k:Int)+1 - 1=(k:Int) by omega];exact wrap_i64 (by omega) (by omega)
 have hin':(i:Int) < (n:Int):=by omega
 obtain⟨⟨y0,y1,y2,y3,y4⟩,z0,z1,z2,z3,z4⟩:=hc
 clear hK hQ
 show Code.wp _ _ _ { tmps:=#[f 0,f 1,f 2,f 3,f 4,f 5,f 6,f 7,f 8,f 9,f 10,f 11,f 12,f 13,f 14,f 15,f 16,f 17,f 18,f 19,f 20,f 21,f 22,f 23,f 24,f 25,f 26,f 27,f 28,f 29,f 30,f 31,f 32,f 33,f 34,f 35,f 36,f 37,f 38,f 39,f 40,f 41,f 42,f 43,f 44,f 45,f 46,f 47,f 48,f 49,f 50,f 51,f 52,f 53,f 54,f 55,f 56,f 57,f 58,f 59,f 60,f 61,f 62,f 63,f 64,f 65,f 66,f 67,f 68,f 69,f 70,f 71,f 72,f 73],defers:=[] } _
 rw[h0,h3,h4,h5]
 clear h0 h3 h4 h5
 conv=>arg 2;whnf
 rcases key with e | ⟨hne,key⟩
 ·have HE:=hhd e
  simp only [Val.mk.injEq] at e
  obtain⟨rfl,rfl,rfl,rfl,rfl⟩:=e
  go_wp2_with fail
  go_quiet (fail)
  go_wp2_with fail
  refine cut_useQ (n:=74) (Q:=Q) (e:=.exit 1) _ rfl ?_
  exact HQ.out (by first | rfl | trivial) _ _ ⟨rfl,rfl,rfl⟩ ((Fr.refl N0 W).drewN _)
 ·have HNE:=hhd hne
  clear hne
  rcases key with e | ⟨rfl,e⟩ | ⟨rfl,rfl,e⟩ | ⟨rfl,rfl,rfl,e⟩ | ⟨rfl,rfl,rfl,rfl,e⟩
  all_goals
   go_wp2_with fail
   go_quiet (fail)
   go_wp2_with fail
   refine cut_use (n:=74) (K:=K) _ rfl ?_
   exact HK.out HNE.out _ _ ⟨rfl,rfl,rfl⟩ rfl ((Fr.refl N0 W).drewN _)
end
section
open Go.RowKit Go.Shelf Go.Maps
attribute [local go_sem] Oper.semAt_some
attribute [local irreducible] wpQuiet
theorem frA_getS(n:Nat)(f:Nat→Value)(i:Nat)(hi:i < n)(d:Value):(frA n f).tmps.getD i d=f i:=by
 simp [frA,hi]
theorem five_of{W:World}{base g n cap:Nat}{os:List Val}(h:VRow W base (.slice (some ⟨g,0,none⟩) n cap) os)(hn:n=os.length)(i:Nat)(hi:i < os.length):Five g (i * 5) os[i] W:=h.cells hn i hi
theorem wp_inBS{P:Program}{c:Code}{n:Nat}{K:Act→World→Prop}{Q:Exit→Act→World→Prop}{a:Act}{W:World}(h:Code.wp P c (Exit.then K (Exit.inBlock n (Exit.then K Q))) a W):Code.wp P c (Exit.inBlock n (Exit.then K Q)) a W:=
 Code.wp_mono (Q:=Exit.then K (Exit.inBlock n (Exit.then K Q))) (fun e a w h=>by cases e <;> exact h) h
def SrA(b off n cap i m:Nat)(v:Value)(os:List Val)(y:Val)(W0:World)(a:Act)(W:World):Prop:=∃ f k,a=frA 74 f∧SrF f b off n cap i v∧f 5 = .int .i64 (k:Nat)∧k≤m∧(∀ j (h:j < os.length),k≤j→0 < vcmp os[j] y)∧Fr N0 W0 W
def SrAm(a:Act)(_:World):Nat:=(intOf (a.tmps.getD 5 (.bool false))).toNat
theorem srDown{K:Act→World→Prop}{Q:Exit→Act→World→Prop}(W:World)(f:Nat→Value)(base b off n cap i:Nat)(v:Value)(os:List Val)(y:Val)(hr:VRow W base v os)(hm:os.length≤10000000000)(hy:valMay y=true)(hos:∀ z ∈ os,valMay z=true)(hin:i < n)(hc:Five b (off+i * 5) y W)
  (h:SrF f b off n cap i v) (h5:f 5 = .int .i64 (os.length:Nat))
  (hK:∀ f' W' k,SrF f' b off n cap i v→f' 5 = .int .i64 (k:Nat)→k≤os.length→(∀ j (h:j < os.length),k≤j→0 < vcmp os[j] y)→(∀ h:k - 1 < os.length,0 < k→¬ 0 < vcmp os[k - 1] y)→Fr N0 W W'→K (frA 74 f') W') :
  Code.wp Tryz.prog (.block 2 (.loop srAL)) (Exit.then K Q) (frA 74 f) W:=by
 refine wp_block ?_
 refine wp_loop (SrA b off n cap i os.length v os y W) SrAm ⟨f,os.length,rfl,h,h5,Nat.le_refl _,fun j hj hk=>by omega,Fr.refl _ _⟩ ?_
 rintro a' Wx ⟨f2,k,rfl,hf2,e5,hk,hgt,hfr⟩
 have hmm:SrAm (frA 74 f2) Wx=k:=by unfold SrAm;rw[frA_getS _ _ _ (by decide),e5];simp [intOf]
 rw[hmm,srAL_eq]
 cases k with
 | zero=>
  refine wp_seq (srR6z Wx f2 b off n cap i v hf2 (by rw[e5];rfl) fun f3 W3 h3 e3 hf3=>?_)
  exact hK f3 W3 0 h3 (by rw[e3];rfl) (Nat.zero_le _) hgt (fun _ h=>absurd h (by omega)) (hfr.then0 hf3)
 | succ k=>
  obtain⟨g,oc,rfl,hg⟩:=hr.form (by omega)
  have hrx:VRow Wx base (.slice (some ⟨g,0,none⟩) os.length oc) os:=hr.fr hfr fun _ _ h=>h
  have hz:=hos os[k] (List.getElem_mem (by omega))
  have hf5:Five2 b (off+i * 5) y g (k * 5) os[k] Wx:=⟨five_fr hc hfr,five_of hrx rfl k (by omega)⟩
  have e5':f2 5 = .int .i64 ((k:Int)+1):=by rw[e5];simp
  rw[srAL1_eq]
  refine wp_seq (wp_seq (srR6r Wx f2 b off n cap i k os.length oc g y os[k] hy hz hf2 e5' (by omega) hm hin hf5 fun f3 W3 h3 e3 e29 hf3=>?_))
  have hfw3:=hfr.then0 hf3
  refine srR6c W3 f3 b off n cap i _ _ _ h3 e3 e29 (fun hd f4 h4 e4=>?_) fun hd f4 h4 e4=>?_
  ·have hpos:0 < vcmp os[k] y:=of_decide_eq_true hd
   refine wp_block ?_
   refine wp_inBS (srR7 W3 f4 b off n cap i (k+1) _ h4 (by rw[e4];simp) (by omega) (by omega) fun f5 h5 e5=>?_)
   refine⟨⟨f5,k,rfl,h5,by rw[e5];rfl,by omega,fun j hj hkj=>?_,hfw3⟩,?_⟩
   ·by_cases e:j=k
    ·subst e;exact hpos
    ·exact hgt j hj (by omega)
   ·unfold SrAm;rw[frA_getS _ _ _ (by decide),e5];simp [intOf]
  ·have hneg:¬ 0 < vcmp os[k] y:=of_decide_eq_false hd
   exact hK f4 W3 (k+1) h4 (by rw[e4];simp) hk hgt (fun _ _=>hneg) hfw3
theorem srR3{K:Act→World→Prop}{Q:Exit→Act→World→Prop}(W:World)(k n c:Nat)(a:Option Addr)(v:Value)(f:Nat→Value)(h0:f 0 = .slice a n c)(h3:f 3=v)(h4:f 4 = .int .i64 k)
  (hK:k < n→∀ f',f' 0 = .slice a n c→f' 3=v→f' 4 = .int .i64 k→K (frA 74 f') W) (hQ:¬ k < n→∀ f',f' 3=v→Q (.exit 0) (frA 74 f') W) :
  Code.wp Tryz.prog (lvFst srL) (Exit.then K Q) (frA 74 f) W:=by
 have HK:=hhd hK;have HQ:=hhd hQ
 clear hK hQ
 show Code.wp _ _ _ { tmps:=#[f 0,f 1,f 2,f 3,f 4,f 5,f 6,f 7,f 8,f 9,f 10,f 11,f 12,f 13,f 14,f 15,f 16,f 17,f 18,f 19,f 20,f 21,f 22,f 23,f 24,f 25,f 26,f 27,f 28,f 29,f 30,f 31,f 32,f 33,f 34,f 35,f 36,f 37,f 38,f 39,f 40,f 41,f 42,f 43,f 44,f 45,f 46,f 47,f 48,f 49,f 50,f 51,f 52,f 53,f 54,f 55,f 56,f 57,f 58,f 59,f 60,f 61,f 62,f 63,f 64,f 65,f 66,f 67,f 68,f 69,f 70,f 71,f 72,f 73],defers:=[] } _
 rw[h0,h3,h4]
 clear h0 h3 h4
 conv=>arg 2;whnf
 by_cases hlt:k < n
 ·have hki:(k:Int) < (n:Int):=by omega
  go_wp2_with fail
  refine cut_use (n:=74) (K:=K) _ rfl ?_
  exact HK.out hlt _ rfl rfl rfl
 ·have hki:¬(k:Int) < (n:Int):=by omega
  go_wp2_with fail
  refine cut_useQ (n:=74) (Q:=Q) (e:=.exit 0) _ rfl ?_
  exact HQ.out hlt _ rfl
theorem srR4{K:Act→World→Prop}{Q:Exit→Act→World→Prop}(W:World)(k:Nat)(hk:k≤10000000000)(v w3:Value)(f:Nat→Value)(h0:f 0=v)(h3:f 3=w3)(h4:f 4 = .int .i64 k)
  (hK:∀ f',f' 0=v→f' 3=w3→f' 4 = .int .i64 ((k+1:Nat):Int)→K (frA 74 f') W) :
  Code.wp Tryz.prog (srSnd (srSnd srL)) (Exit.then K Q) (frA 74 f) W:=by
 have HK:=hhd hK
 clear hK
 show Code.wp _ _ _ { tmps:=#[f 0,f 1,f 2,f 3,f 4,f 5,f 6,f 7,f 8,f 9,f 10,f 11,f 12,f 13,f 14,f 15,f 16,f 17,f 18,f 19,f 20,f 21,f 22,f 23,f 24,f 25,f 26,f 27,f 28,f 29,f 30,f 31,f 32,f 33,f 34,f 35,f 36,f 37,f 38,f 39,f 40,f 41,f 42,f 43,f 44,f 45,f 46,f 47,f 48,f 49,f 50,f 51,f 52,f 53,f 54,f 55,f 56,f 57,f 58,f 59,f 60,f 61,f 62,f 63,f 64,f 65,f 66,f 67,f 68,f 69,f 70,f 71,f 72,f 73],defers:=[] } _
 rw[h0,h3,h4]
 clear h0 h3 h4
 conv=>arg 2;whnf
 go_wp2_with fail
 refine cut_use (n:=74) (K:=K) _ rfl ?_
 exact HK.out _ rfl rfl (by show Value.int .i64 ((k:Int)+1)=_;go_num)
theorem srR15{Q:Exit→Act→World→Prop}(W:World)(v:Value)(f:Nat→Value)(h3:f 3=v)(hQ:∀ f':Nat→Value,f' 2=v→Q .ret (frA 74 f') W) :
  Code.wp Tryz.prog (srB 3) Q (frA 74 f) W:=by
 have HQ:=hhd hQ
 clear hQ
 show Code.wp _ _ _ { tmps:=#[f 0,f 1,f 2,f 3,f 4,f 5,f 6,f 7,f 8,f 9,f 10,f 11,f 12,f 13,f 14,f 15,f 16,f 17,f 18,f 19,f 20,f 21,f 22,f 23,f 24,f 25,f 26,f 27,f 28,f 29,f 30,f 31,f 32,f 33,f 34,f 35,f 36,f 37,f 38,f 39,f 40,f 41,f 42,f 43,f 44,f 45,f 46,f 47,f 48,f 49,f 50,f 51,f 52,f 53,f 54,f 55,f 56,f 57,f 58,f 59,f 60,f 61,f 62,f 63,f 64,f 65,f 66,f 67,f 68,f 69,f 70,f 71,f 72,f 73],defers:=[] } _
 rw[h3]
 clear h3
 conv=>arg 2;whnf
 go_wp2_with fail
 refine cut_useQ (n:=74) (Q:=Q) (e:=.ret) _ rfl ?_
 exact HQ.out _ rfl
def SrI(base n:Nat)(l0:Value)(l:List Val)(w0:World)(a:Act)(W:World):Prop:=∃ f i v,a=frA 74 f∧f 0=l0∧f 3=v∧f 4 = .int .i64 (i:Nat)∧i≤n∧VRow W base v (srtV (l.take i))∧Fr (fun q=>base≤q) w0 W
def SrM(n:Nat)(a:Act)(_:World):Nat:=n - (intOf (a.tmps.getD 4 (.bool false))).toNat
theorem fr_ge{base:Nat}{w W:World}(h:Fr (fun q=>base≤q) w W)(hb:w.heap.size≤base):Fr N0 w W:=(Fr.refl N0 w).trans h fun q hq=>.inr (Nat.le_trans hb hq)
theorem r3Sort_any(w:World)(b:Nat)(v:Value)(l:List Val)(h:RowsK Val.enc 5 w b v l)(hl:l.length≤10000000000)(hm:∀ y ∈ l,valMay y=true) :
  Calls Tryz.prog 242 #[v] w fun e w'=>∃ v',e = .returned v'∧VRow w' w.heap.size v' (srtV l)∧Fr N0 w w':=by
 obtain⟨a,off,cap,rfl,r1,r2,r3,-,r5⟩:=h
 have hst:∀ k (hk:k < l.length),srtV (l.take (k+1))=insU (srtV (l.take k)) l[k]:=fun k hk=>by rw[List.take_succ_eq_append_getElem hk,srtV_snoc]
 have hlen:∀ k,(srtV (l.take k)).length≤10000000000:=fun k=>Nat.le_trans (srtV_len _) (by rw[List.length_take];omega)
 have hos:∀ k,∀ z ∈ srtV (l.take k),valMay z=true:=fun k z hz=>hm z (List.mem_of_mem_take (srtV_mem hz))
 go_enter Tryz.func242,Tryz.ntmps242
 go_wp2_with fail
 rename_i Qx Kx hKx
 refine wp_frA (n:=74) _ rfl ?_
 refine(show ∀ f0:Nat→Value,f0 0 = .slice a l.length cap→f0 3 = .slice none 0 0→f0 4 = .int .i64 (0:Nat)→Code.wp Tryz.prog (.loop srL) _ (frA 74 f0) w from fun f0 a0 a3 a4=>?_) _ rfl rfl rfl
 refine wp_loop (SrI w.heap.size l.length (.slice a l.length cap) l w) (SrM l.length) ⟨f0,0,_,rfl,a0,a3,a4,Nat.zero_le _,World.ownsRow_nil _ _ _ _,Fr.refl _ _⟩ ?_
 rintro a' Wx ⟨f2,i,v,rfl,e0,e3,e4,hi,hV,hF⟩
 have hmm:SrM l.length (frA 74 f2) Wx=l.length - i:=by unfold SrM;rw[frA_getS _ _ _ (by decide),e4];simp [intOf]
 rw[hmm,srL_eq]
 have hwz:=hF.size
 refine wp_seq (srR3 Wx i l.length cap a v f2 e0 e3 e4 (fun hlt f3 g0 g3 g4=>?_) fun hlt f3 g3=>?_)
 ·obtain rfl:=r3 (by omega)
  have c0:=r5 i hlt 0 (by decide)
  have hbw:b < w.heap.size:=lt_of_cell c0
  have hnb:¬ w.heap.size≤b:=by omega
  have hc:∀ W',Fr (fun q=>w.heap.size≤q) w W'→∀ c,c < 5→W'.cell? ⟨b,off+i * 5+c,none⟩=l[i].enc[c]?:=fun W' hf c hc=>by
   have h1:=r5 i hlt c hc
   rw[← h1]
   exact cell_same (p:=⟨b,off+i * 5+c,none⟩) (hf.at hnb hbw)
  have hfive:∀ W',Fr (fun q=>w.heap.size≤q) w W'→Five b (off+i * 5) l[i] W':=fun W' hf=>⟨hc W' hf 0 (by decide),hc W' hf 1 (by decide),hc W' hf 2 (by decide),hc W' hf 3 (by decide),hc W' hf 4 (by decide)⟩
  have next:∀ f' W' v',f' 0 = .slice (some ⟨b,off,none⟩) l.length cap→f' 3=v'→f' 4 = .int .i64 (i:Nat)→VRow W' w.heap.size v' (srtV (l.take (i+1)))→Fr (fun q=>w.heap.size≤q) w W'→Code.wp Tryz.prog (srSnd (srSnd srL)) (Exit.then (fun a' w'=>SrI w.heap.size l.length (.slice (some ⟨b,off,none⟩) l.length cap) l w a' w'∧SrM l.length a' w' < l.length - i) (Exit.inBlock 0 (Exit.then Kx Qx))) (frA 74 f') W':=fun f' W' v' e0 e3 e4 hV' hF'=>by
   refine srR4 W' i (by omega) _ _ f' e0 e3 e4 fun f6 p0 p3 p4=>⟨⟨f6,i+1,v',rfl,p0,p3,p4,hlt,hV',hF'⟩,?_⟩
   unfold SrM
   rw[frA_getS _ _ _ (by decide),p4]
   exact Nat.sub_lt_sub_left hlt (Nat.lt_succ_self i)
  obtain⟨oa,oc,rfl⟩:=hV.vform
  rw[srI0_eq]
  refine wp_seq (wp_block ?_)
  refine wp_inBS ?_
  refine wp_seq (srR5 Wx f3 b off l.length cap i _ oc oa ⟨g0,g3,g4⟩ fun f4 h4 e5=>?_)
  refine wp_seq (srDown Wx f4 w.heap.size b off l.length cap i _ _ l[i] hV (hlen i) (hm _ (List.getElem_mem hlt)) (hos i) hlt (hfive Wx hF) h4 e5 fun f5 W5 k h5 p5 hk hgt hle hf5=>?_)
  have hF5:=hF.then0 hf5
  have hV5:=hV.fr hf5 fun _ _ h=>h
  have hdone:∀ f' W',(l[i] ∈ srtV (l.take i))→SrF f' b off l.length cap i (.slice oa (srtV (l.take i)).length oc)→Fr N0 W5 W'→Code.wp Tryz.prog (srSnd (srSnd srL)) (Exit.then (fun a' w'=>SrI w.heap.size l.length (.slice (some ⟨b,off,none⟩) l.length cap) l w a' w'∧SrM l.length a' w' < l.length - i) (Exit.inBlock 0 (Exit.then Kx Qx))) (frA 74 f') W':=fun f' W' hmem hf' hw'=>by
   refine next f' W' _ hf'.h0 hf'.h3 hf'.h4 ?_ (hF5.then0 hw')
   rw[hst i hlt]
   unfold insU
   rw[if_pos hmem]
   exact hV5.fr hw' fun _ _ h=>h
  have hput:∀ (Q2:Exit→Act→World→Prop) (f':Nat→Value) W',SrF f' b off l.length cap i (.slice oa (srtV (l.take i)).length oc)→f' 5 = .int .i64 (k:Nat)→Fr N0 W5 W'→(∀ h:k - 1 < (srtV (l.take i)).length,0 < k→(srtV (l.take i))[k - 1]≠l[i])→Code.wp Tryz.prog (srI 3) (Exit.then (fun a' w'=>Code.wp Tryz.prog (srSnd (srSnd srL)) (Exit.then (fun a' w'=>SrI w.heap.size l.length (.slice (some ⟨b,off,none⟩) l.length cap) l w a' w'∧SrM l.length a' w' < l.length - i) (Exit.inBlock 0 (Exit.then Kx Qx))) a' w') Q2) (frA 74 f') W':=fun Q2 f' W' hf' e5' hw' hne=>by
   have hins:=insU_new (srtV_rises (l.take i)) hk hgt fun h h0=>by
    have h1:=hle h h0
    have h2:vcmp (srtV (l.take i))[k - 1] l[i]≠0:=fun e=>hne h h0 (vcmp_zero.1 e)
    omega
   refine srTail W' f' w.heap.size b off l.length cap i k _ _ l[i] (hV5.fr hw' fun _ _ h=>h) (by have:=hF5.size;have:=hw'.size;omega) hbw (hlen i) hk hlt hf'.h0 hf'.h3 hf'.h4 e5' (hc W' (hF5.then0 hw')) fun f6 W6 v6 q0 q1 q2 q3 q4 q73 hV6 hF6=>?_
   refine next f6 W6 v6 q0 q3 q4 ?_ ((hF5.then0 hw').trans hF6 fun q hq=>.inl hq)
   rw[hst i hlt,hins]
   exact hV6
  cases k with
  | zero=>
   refine wp_seq (srR8z W5 f5 b off l.length cap i _ h5 (by rw[p5];rfl) fun f6 W6 h6 p6 hf6=>?_)
   exact hput _ f6 W6 h6 (by rw[p6];rfl) hf6 fun _ h=>absurd h (by omega)
  | succ k=>
   obtain⟨g,oc',hsl,hg⟩:=hV5.form (by omega)
   injection hsl with hs1 hs2 hs3
   subst hs1 hs3
   refine wp_seq (srR8 W5 f5 b off l.length cap i k _ oc g l[i] (srtV (l.take i))[k] h5 (by rw[p5];simp) (by omega) (hlen i) hlt ⟨hfive W5 hF5,five_of hV5 rfl k (by omega)⟩ (fun hne f6 W6 h6 p6 hf6=>?_) fun he f6 W6 h6 hf6=>?_)
   ·exact hput _ f6 W6 h6 (by rw[p6];simp) hf6 fun _ _=>hne
   ·exact hdone f6 W6 (he ▸ List.getElem_mem (by omega)) h6 hf6
 ·refine hKx _ _ ?_
  refine(show Code.wp Tryz.prog (srB 3) _ (frA 74 f3) Wx from ?_)
  refine srR15 Wx v f3 g3 fun f4 e2=>?_
  have hfull:l.take i=l:=by rw[show i=l.length by omega,List.take_length]
  rw[hfull] at hV
  exact bodyPost_ret (v:=v) (by simp [results,frA,Tryz.results242,go_sem,e2]) rfl ⟨v,rfl,hV,fr_ge hF (Nat.le_refl _)⟩
end
end Go.Proofs.YtefepfiijoafbaaGreat
