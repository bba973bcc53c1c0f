/- Ly2 Ly3 Ly4 -/
import Derived.Test.YtefepfiijoafbaaGreatQLy1
set_option linter.unusedVariables false
set_option linter.unusedSimpArgs false
set_option maxRecDepth 100000
set_option maxHeartbeats 4000000
namespace Go.Proofs.YtefepfiijoafbaaGreat
open Go.RowKit Go.Shelf Go.Maps
attribute [local go_sem] Oper.semAt_some
attribute [local irreducible] wpQuiet
theorem ly5{K:Act→World→Prop}{Q:Exit→Act→World→Prop}(w W:World)(R:Nat→Prop)(q p:Nat)(f:Nat→Value)(h:Lxl w W R q { s:=cAge })(h1:f 1=vP q)(h3:f 3=vP p)(h5:f 5=vPut)
  (hK:∀ f' W' R',f' 1=vP q→f' 3=vP p→f' 5=vPut→Lxl w W' R' q lAge→(∀ k,R' k→R k∨W.heap.size≤k)→Fr R W W'→K (frA 110 f') W') :
  Code.wp Tryz.prog (lvFst (lyB 5)) (Exit.then K Q) (frA 110 f) W:=by
 have HN:=hhd fun W n=>lxNum_any W n
 have HP:=hhd fun W u n=>lx1_any W u bAge (numV n)
 have hadd:=fun(W7:World) (S:Nat) (hf:Fr N0 W W7) (hS:W7.heap[S]?=some (.cells (wAge.flatMap Wr.enc).toArray 61 (0,0))) (hs:W.heap.size≤S)=>lx_add_age (h.fr hf) hS fun hr=>by have:=(h.2.1 S hr).2;omega
 have HA:=hhd hadd;have HK:=hhd hK
 simp only [wAge,numV,Val.enc,Wr.enc,bAge,List.flatMap_cons,List.flatMap_nil,List.cons_append,List.nil_append,List.append_nil] at HN HP HA
 unfold vPut at h5 HK
 clear hadd hK h
 show Code.wp _ _ _ { tmps:=#[f 0,f 1,f 2,f 3,f 4,f 5,f 6,f 7,f 8,f 9,f 10,f 11,f 12,f 13,f 14,f 15,f 16,f 17,f 18,f 19,f 20,f 21,f 22,f 23,f 24,f 25,f 26,f 27,f 28,f 29,f 30,f 31,f 32,f 33,f 34,f 35,f 36,f 37,f 38,f 39,f 40,f 41,f 42,f 43,f 44,f 45,f 46,f 47,f 48,f 49,f 50,f 51,f 52,f 53,f 54,f 55,f 56,f 57,f 58,f 59,f 60,f 61,f 62,f 63,f 64,f 65,f 66,f 67,f 68,f 69,f 70,f 71,f 72,f 73,f 74,f 75,f 76,f 77,f 78,f 79,f 80,f 81,f 82,f 83,f 84,f 85,f 86,f 87,f 88,f 89,f 90,f 91,f 92,f 93,f 94,f 95,f 96,f 97,f 98,f 99,f 100,f 101,f 102,f 103,f 104,f 105,f 106,f 107,f 108,f 109],defers:=[] } _
 rw[h1,h3,h5]
 clear h1 h3 h5
 conv=>arg 2;whnf
 go_wp2_with fail
 refine(HN.out _ _).mono ?_
 rintro e w1 ⟨rfl,hf1⟩
 go_wp2_with fail
 refine(HP.out _ _ _).mono ?_
 rintro e w2 ⟨rfl,hf2⟩
 have hg2:=hf1.then0 hf2
 clear hf1 hf2
 go_wp2_with fail
 refine(HN.out _ _).mono ?_
 rintro e w3 ⟨rfl,hf3⟩
 go_wp2_with fail
 refine(HP.out _ _ _).mono ?_
 rintro e w4 ⟨rfl,hf4⟩
 have hg4:=(hg2.then0 hf3).then0 hf4
 clear hg2 hf3 hf4
 go_wp2_with fail
 refine(HN.out _ _).mono ?_
 rintro e w5 ⟨rfl,hf5⟩
 go_wp2_with fail
 refine(HP.out _ _ _).mono ?_
 rintro e w6 ⟨rfl,hf6⟩
 have hg6:=(hg4.then0 hf5).then0 hf6
 have HG:=hhd hg6
 clear hg4 hf5 hf6 hg6
 go_wp2_with fail
 refine(HA.out _ _ (HG.out.alloc _) (World.alloc_heap_new _ _) HG.out.size).mono ?_
 rintro e w7 ⟨⟨a,E,rfl⟩,R',hl,hR,hf7⟩
 have HL:=hhd hl;have HR:=hhd hR;have HF:=hhd hf7
 clear hl hR hf7
 go_wp2_with fail
 refine cut_use (n:=110) (K:=K) _ rfl ?_
 have hz:=HG.out.size
 exact HK.out _ w7 R' rfl rfl rfl HL.out (fun k hk=>(HR.out k hk).imp id fun h=>by simp at h;omega) (((HG.out.alloc _).mono fun _ h=>h.elim).trans HF.out fun k hk=>.inl hk)
theorem ly6{K:Act→World→Prop}{Q:Exit→Act→World→Prop}(w W:World)(R:Nat→Prop)(q p:Nat)(f:Nat→Value)(h:Lxl w W R p { s:=cFri })(h1:f 1=vP q)(h3:f 3=vP p)(h5:f 5=vPut)
  (hK:∀ f' W' R',f' 1=vP q→f' 3=vP p→Lxl w W' R' p lFri→(∀ k,R' k→R k∨W.heap.size≤k)→Fr R W W'→K (frA 110 f') W') :
  Code.wp Tryz.prog (lvFst (lyB 6)) (Exit.then K Q) (frA 110 f) W:=by
 have HN:=hhd fun W n=>lxNode_any W n
 have HP:=hhd fun W u n=>lx1_any W u bFri (nodeV n)
 have hadd:=fun(W7:World) (S:Nat) (hf:Fr N0 W W7) (hS:W7.heap[S]?=some (.cells (wFri.flatMap Wr.enc).toArray 61 (0,0))) (hs:W.heap.size≤S)=>lx_add_fri (h.fr hf) hS fun hr=>by have:=(h.2.1 S hr).2;omega
 have HA:=hhd hadd;have HK:=hhd hK
 simp only [wFri,nodeV,Val.enc,Wr.enc,bFri,List.flatMap_cons,List.flatMap_nil,List.cons_append,List.nil_append,List.append_nil] at HN HP HA
 unfold vPut at h5
 clear hadd hK h
 show Code.wp _ _ _ { tmps:=#[f 0,f 1,f 2,f 3,f 4,f 5,f 6,f 7,f 8,f 9,f 10,f 11,f 12,f 13,f 14,f 15,f 16,f 17,f 18,f 19,f 20,f 21,f 22,f 23,f 24,f 25,f 26,f 27,f 28,f 29,f 30,f 31,f 32,f 33,f 34,f 35,f 36,f 37,f 38,f 39,f 40,f 41,f 42,f 43,f 44,f 45,f 46,f 47,f 48,f 49,f 50,f 51,f 52,f 53,f 54,f 55,f 56,f 57,f 58,f 59,f 60,f 61,f 62,f 63,f 64,f 65,f 66,f 67,f 68,f 69,f 70,f 71,f 72,f 73,f 74,f 75,f 76,f 77,f 78,f 79,f 80,f 81,f 82,f 83,f 84,f 85,f 86,f 87,f 88,f 89,f 90,f 91,f 92,f 93,f 94,f 95,f 96,f 97,f 98,f 99,f 100,f 101,f 102,f 103,f 104,f 105,f 106,f 107,f 108,f 109],defers:=[] } _
 rw[h1,h3,h5]
 clear h1 h3 h5
 conv=>arg 2;whnf
 go_wp2_with fail
 refine(HN.out _ _).mono ?_
 rintro e w1 ⟨rfl,hf1⟩
 go_wp2_with fail
 refine(HP.out _ _ _).mono ?_
 rintro e w2 ⟨rfl,hf2⟩
 have hg2:=hf1.then0 hf2
 clear hf1 hf2
 go_wp2_with fail
 refine(HN.out _ _).mono ?_
 rintro e w3 ⟨rfl,hf3⟩
 go_wp2_with fail
 refine(HP.out _ _ _).mono ?_
 rintro e w4 ⟨rfl,hf4⟩
 have hg4:=(hg2.then0 hf3).then0 hf4
 have HG:=hhd hg4
 clear hg2 hf3 hf4 hg4
 go_wp2_with fail
 refine(HA.out _ _ (HG.out.alloc _) (World.alloc_heap_new _ _) HG.out.size).mono ?_
 rintro e w7 ⟨⟨a,E,rfl⟩,R',hl,hR,hf7⟩
 have HL:=hhd hl;have HR:=hhd hR;have HF:=hhd hf7
 clear hl hR hf7
 go_wp2_with fail
 refine cut_use (n:=110) (K:=K) _ rfl ?_
 have hz:=HG.out.size
 exact HK.out _ w7 R' rfl rfl HL.out (fun k hk=>(HR.out k hk).imp id fun h=>by simp at h;omega) (((HG.out.alloc _).mono fun _ h=>h.elim).trans HF.out fun k hk=>.inl hk)
theorem ly7{K:Act→World→Prop}{Q:Exit→Act→World→Prop}(w W:World)(R:Nat→Prop)(q p:Nat)(f:Nat→Value)(h:Lxl w W R q lAge)(h1:f 1=vP q)(h3:f 3=vP p)
  (hK:∀ f' W' v b,f' 1=vP q→f' 3=vP p→f' 6=v→Ints .u64 W' b v [1,3]→Fr N0 W W'→K (frA 110 f') W') :
  Code.wp Tryz.prog (lvFst (lyB 7)) (Exit.then K Q) (frA 110 f) W:=by
 have HN:=hhd fun W n=>lxNum_any W n
 have hadd:=fun(W7:World) (S:Nat) (hf:Fr N0 W W7) (hS:W7.heap[S]?=some (.cells ([numV 5,numV 9].flatMap Val.enc).toArray 57 (0,0)))=>lx_find_eq (h.fr hf) hS
 have HA:=hhd hadd;have HK:=hhd hK
 simp only [numV,Val.enc,bAge,List.flatMap_cons,List.flatMap_nil,List.cons_append,List.nil_append,List.append_nil] at HN HA
 clear hadd hK h
 show Code.wp _ _ _ { tmps:=#[f 0,f 1,f 2,f 3,f 4,f 5,f 6,f 7,f 8,f 9,f 10,f 11,f 12,f 13,f 14,f 15,f 16,f 17,f 18,f 19,f 20,f 21,f 22,f 23,f 24,f 25,f 26,f 27,f 28,f 29,f 30,f 31,f 32,f 33,f 34,f 35,f 36,f 37,f 38,f 39,f 40,f 41,f 42,f 43,f 44,f 45,f 46,f 47,f 48,f 49,f 50,f 51,f 52,f 53,f 54,f 55,f 56,f 57,f 58,f 59,f 60,f 61,f 62,f 63,f 64,f 65,f 66,f 67,f 68,f 69,f 70,f 71,f 72,f 73,f 74,f 75,f 76,f 77,f 78,f 79,f 80,f 81,f 82,f 83,f 84,f 85,f 86,f 87,f 88,f 89,f 90,f 91,f 92,f 93,f 94,f 95,f 96,f 97,f 98,f 99,f 100,f 101,f 102,f 103,f 104,f 105,f 106,f 107,f 108,f 109],defers:=[] } _
 rw[h1,h3]
 clear h1 h3
 conv=>arg 2;whnf
 go_wp2_with fail
 refine(HN.out _ _).mono ?_
 rintro e w1 ⟨rfl,hf1⟩
 go_wp2_with fail
 refine(HN.out _ _).mono ?_
 rintro e w2 ⟨rfl,hf2⟩
 have hg2:=hf1.then0 hf2
 have HG:=hhd hg2
 clear hf1 hf2 hg2
 go_wp2_with fail
 refine(HA.out _ _ (HG.out.alloc _) (World.alloc_heap_new _ _)).mono ?_
 rintro e w3 ⟨v,b,rfl,hI,hf3⟩
 have HI:=hhd hI;have HF:=hhd ((HG.out.alloc _).then0 hf3)
 clear hI hf3
 go_wp2_with fail
 refine cut_use (n:=110) (K:=K) _ rfl ?_
 exact HK.out _ w3 v b rfl rfl rfl HI.out HF.out
theorem ly8{K:Act→World→Prop}{Q:Exit→Act→World→Prop}(w W:World)(R:Nat→Prop)(q p:Nat)(f:Nat→Value)(v6:Value)(h:Lxl w W R p lFri)(h1:f 1=vP q)(h3:f 3=vP p)(h6:f 6=v6)
  (hK:∀ f' W' v b,f' 1=vP q→f' 3=vP p→f' 6=v6→f' 8=v→Ints .u64 W' b v [2,3]→Fr N0 W W'→K (frA 110 f') W') :
  Code.wp Tryz.prog (lvFst (lyB 8)) (Exit.then K Q) (frA 110 f) W:=by
 have HA:=hhd (lx_find_has h);have HK:=hhd hK
 simp only [bFri] at HA
 clear hK h
 show Code.wp _ _ _ { tmps:=#[f 0,f 1,f 2,f 3,f 4,f 5,f 6,f 7,f 8,f 9,f 10,f 11,f 12,f 13,f 14,f 15,f 16,f 17,f 18,f 19,f 20,f 21,f 22,f 23,f 24,f 25,f 26,f 27,f 28,f 29,f 30,f 31,f 32,f 33,f 34,f 35,f 36,f 37,f 38,f 39,f 40,f 41,f 42,f 43,f 44,f 45,f 46,f 47,f 48,f 49,f 50,f 51,f 52,f 53,f 54,f 55,f 56,f 57,f 58,f 59,f 60,f 61,f 62,f 63,f 64,f 65,f 66,f 67,f 68,f 69,f 70,f 71,f 72,f 73,f 74,f 75,f 76,f 77,f 78,f 79,f 80,f 81,f 82,f 83,f 84,f 85,f 86,f 87,f 88,f 89,f 90,f 91,f 92,f 93,f 94,f 95,f 96,f 97,f 98,f 99,f 100,f 101,f 102,f 103,f 104,f 105,f 106,f 107,f 108,f 109],defers:=[] } _
 rw[h1,h3,h6]
 clear h1 h3 h6
 conv=>arg 2;whnf
 go_wp2_with fail
 refine HA.out.mono ?_
 rintro e w3 ⟨v,b,rfl,hI,hf3⟩
 have HI:=hhd hI;have HF:=hhd hf3
 clear hI hf3
 go_wp2_with fail
 refine cut_use (n:=110) (K:=K) _ rfl ?_
 exact HK.out _ w3 v b rfl rfl rfl rfl HI.out HF.out
theorem ly9{K:Act→World→Prop}{Q:Exit→Act→World→Prop}(w W:World)(R:Nat→Prop)(q p:Nat)(f:Nat→Value)(v6 v8:Value)(h:Lxl w W R q lAge)(h1:f 1=vP q)(h3:f 3=vP p)(h6:f 6=v6)(h8:f 8=v8)
  (hK:∀ f' W' v b,f' 3=vP p→f' 6=v6→f' 8=v8→f' 10=v→Ints .u64 W' b v [2,1,3,4]→Fr N0 W W'→K (frA 110 f') W') :
  Code.wp Tryz.prog (lvFst (lyB 9)) (Exit.then K Q) (frA 110 f) W:=by
 have hadd:=fun(W7:World) (S:Nat) (hf:Fr N0 W W7) (hS:W7.heap[S]?=some (.cells #[.int .u64 3,.int .u64 2,.int .u64 1,.int .u64 4] 33 (0,0)))=>lx_order (h.fr hf) hS
 have HA:=hhd hadd;have HK:=hhd hK
 clear hadd hK h
 show Code.wp _ _ _ { tmps:=#[f 0,f 1,f 2,f 3,f 4,f 5,f 6,f 7,f 8,f 9,f 10,f 11,f 12,f 13,f 14,f 15,f 16,f 17,f 18,f 19,f 20,f 21,f 22,f 23,f 24,f 25,f 26,f 27,f 28,f 29,f 30,f 31,f 32,f 33,f 34,f 35,f 36,f 37,f 38,f 39,f 40,f 41,f 42,f 43,f 44,f 45,f 46,f 47,f 48,f 49,f 50,f 51,f 52,f 53,f 54,f 55,f 56,f 57,f 58,f 59,f 60,f 61,f 62,f 63,f 64,f 65,f 66,f 67,f 68,f 69,f 70,f 71,f 72,f 73,f 74,f 75,f 76,f 77,f 78,f 79,f 80,f 81,f 82,f 83,f 84,f 85,f 86,f 87,f 88,f 89,f 90,f 91,f 92,f 93,f 94,f 95,f 96,f 97,f 98,f 99,f 100,f 101,f 102,f 103,f 104,f 105,f 106,f 107,f 108,f 109],defers:=[] } _
 rw[h1,h3,h6,h8]
 clear h1 h3 h6 h8
 conv=>arg 2;whnf
 go_wp2_with fail
 refine(HA.out _ _ ((Fr.refl _ _).alloc _) (World.alloc_heap_new _ _)).mono ?_
 rintro e w3 ⟨v,b,rfl,hI,hf3⟩
 have HI:=hhd hI;have HF:=hhd (((Fr.refl N0 W).alloc _).then0 hf3)
 clear hI hf3
 go_wp2_with fail
 refine cut_use (n:=110) (K:=K) _ rfl ?_
 exact HK.out _ w3 v b rfl rfl rfl rfl HI.out HF.out
theorem ly10{K:Act→World→Prop}{Q:Exit→Act→World→Prop}(w W:World)(R:Nat→Prop)(q p:Nat)(f:Nat→Value)(v6 v8 v10:Value)(h:Lxl w W R p lFri)(h3:f 3=vP p)(h6:f 6=v6)(h8:f 8=v8)(h10:f 10=v10)
  (hK:∀ f' W',f' 6=v6→f' 8=v8→f' 10=v10→f' 13 = .int .i64 42→Fr N0 W W'→K (frA 110 f') W') :
  Code.wp Tryz.prog (lvFst (lyB 10)) (Exit.then K Q) (frA 110 f) W:=by
 have HN:=hhd fun W n=>lxNum_any W n
 have hadd:=fun(W7:World) (S:Nat) (hf:Fr N0 W W7) (hS:W7.heap[S]?=some (.cells ([numV 3].flatMap Val.enc).toArray 57 (0,0)))=>lx_find_lt (h.fr hf) hS
 have HA:=hhd hadd;have HK:=hhd hK
 simp only [numV,Val.enc,bFri,List.flatMap_cons,List.flatMap_nil,List.cons_append,List.nil_append,List.append_nil] at HN HA
 clear hadd hK h
 show Code.wp _ _ _ { tmps:=#[f 0,f 1,f 2,f 3,f 4,f 5,f 6,f 7,f 8,f 9,f 10,f 11,f 12,f 13,f 14,f 15,f 16,f 17,f 18,f 19,f 20,f 21,f 22,f 23,f 24,f 25,f 26,f 27,f 28,f 29,f 30,f 31,f 32,f 33,f 34,f 35,f 36,f 37,f 38,f 39,f 40,f 41,f 42,f 43,f 44,f 45,f 46,f 47,f 48,f 49,f 50,f 51,f 52,f 53,f 54,f 55,f 56,f 57,f 58,f 59,f 60,f 61,f 62,f 63,f 64,f 65,f 66,f 67,f 68,f 69,f 70,f 71,f 72,f 73,f 74,f 75,f 76,f 77,f 78,f 79,f 80,f 81,f 82,f 83,f 84,f 85,f 86,f 87,f 88,f 89,f 90,f 91,f 92,f 93,f 94,f 95,f 96,f 97,f 98,f 99,f 100,f 101,f 102,f 103,f 104,f 105,f 106,f 107,f 108,f 109],defers:=[] } _
 rw[h3,h6,h8,h10]
 clear h3 h6 h8 h10
 conv=>arg 2;whnf
 go_wp2_with fail
 refine(HN.out _ _).mono ?_
 rintro e w1 ⟨rfl,hf1⟩
 have HG:=hhd hf1
 clear hf1
 go_wp2_with fail
 refine(HA.out _ _ (HG.out.alloc _) (World.alloc_heap_new _ _)).mono ?_
 rintro e w3 ⟨rfl,hf3⟩
 have HF:=hhd ((HG.out.alloc _).then0 hf3)
 clear hf3
 go_wp2_with fail
 refine cut_use (n:=110) (K:=K) _ rfl ?_
 exact HK.out _ w3 rfl rfl rfl rfl HF.out
theorem ly11{K:Act→World→Prop}{Q:Exit→Act→World→Prop}(W:World)(f:Nat→Value)(v6 v8 v10:Value)(b6 b8 b10:Nat)(i6:Ints .u64 W b6 v6 [1,3])(i8:Ints .u64 W b8 v8 [2,3])(i10:Ints .u64 W b10 v10 [2,1,3,4])(h6:f 6=v6)(h8:f 8=v8)(h10:f 10=v10)(h13:f 13 = .int .i64 42)
  (hK:∀ f' W',f' 0 = .bool true→Fr N0 W W'→K (frA 110 f') W') :
  Code.wp Tryz.prog (lvFst (lyB 11)) (Exit.then K Q) (frA 110 f) W:=by
 have hs6:=fun(W7:World) (S:Nat) (hf:Fr N0 W W7) (hS:W7.heap[S]?=some (.cells #[.int .u64 1,.int .u64 3] 33 (0,0)))=>sameN_any W7 b6 S v6 (.slice (some ⟨S,0,none⟩) 2 2) [1,3] (i6.fr0 hf) (ints_of_block [1,3] hS (by decide) (by decide))
 have hs8:=fun(W7:World) (S:Nat) (hf:Fr N0 W W7) (hS:W7.heap[S]?=some (.cells #[.int .u64 2,.int .u64 3] 33 (0,0)))=>sameN_any W7 b8 S v8 (.slice (some ⟨S,0,none⟩) 2 2) [2,3] (i8.fr0 hf) (ints_of_block [2,3] hS (by decide) (by decide))
 have hs10:=fun(W7:World) (S:Nat) (hf:Fr N0 W W7) (hS:W7.heap[S]?=some (.cells #[.int .u64 2,.int .u64 1,.int .u64 3,.int .u64 4] 33 (0,0)))=>sameN_any W7 b10 S v10 (.slice (some ⟨S,0,none⟩) 4 4) [2,1,3,4] (i10.fr0 hf) (ints_of_block [2,1,3,4] hS (by decide) (by decide))
 have H6:=hhd hs6;have H8:=hhd hs8;have H10:=hhd hs10;have HK:=hhd hK
 clear hs6 hs8 hs10 hK i6 i8 i10
 show Code.wp _ _ _ { tmps:=#[f 0,f 1,f 2,f 3,f 4,f 5,f 6,f 7,f 8,f 9,f 10,f 11,f 12,f 13,f 14,f 15,f 16,f 17,f 18,f 19,f 20,f 21,f 22,f 23,f 24,f 25,f 26,f 27,f 28,f 29,f 30,f 31,f 32,f 33,f 34,f 35,f 36,f 37,f 38,f 39,f 40,f 41,f 42,f 43,f 44,f 45,f 46,f 47,f 48,f 49,f 50,f 51,f 52,f 53,f 54,f 55,f 56,f 57,f 58,f 59,f 60,f 61,f 62,f 63,f 64,f 65,f 66,f 67,f 68,f 69,f 70,f 71,f 72,f 73,f 74,f 75,f 76,f 77,f 78,f 79,f 80,f 81,f 82,f 83,f 84,f 85,f 86,f 87,f 88,f 89,f 90,f 91,f 92,f 93,f 94,f 95,f 96,f 97,f 98,f 99,f 100,f 101,f 102,f 103,f 104,f 105,f 106,f 107,f 108,f 109],defers:=[] } _
 rw[h6,h8,h10,h13]
 clear h6 h8 h10 h13
 conv=>arg 2;whnf
 go_wp2_with fail
 refine(H6.out _ _ ((Fr.refl _ _).alloc _) (World.alloc_heap_new _ _)).mono ?_
 rintro e w1 ⟨rfl,hf1⟩
 have hg1:=((Fr.refl N0 W).alloc _).then0 hf1
 clear hf1
 go_wp2_with fail
 refine(H8.out _ _ (hg1.alloc _) (World.alloc_heap_new _ _)).mono ?_
 rintro e w2 ⟨rfl,hf2⟩
 have hg2:=(hg1.alloc _).then0 hf2
 clear hf2 hg1
 go_wp2_with fail
 refine(H10.out _ _ (hg2.alloc _) (World.alloc_heap_new _ _)).mono ?_
 rintro e w3 ⟨rfl,hf3⟩
 have hg3:=(hg2.alloc _).then0 hf3
 have HG:=hhd hg3
 clear hf3 hg2 hg3
 go_wp2_with fail
 refine cut_use (n:=110) (K:=K) _ rfl ?_
 exact HK.out _ w3 rfl HG.out
theorem lxLives_any(w:World):Calls Tryz.prog 24 #[] w fun e w'=>e = .returned (.bool true)∧Fr N0 w w':=by
 go_enter Tryz.func24,Tryz.ntmps24
 refine wp_frA _ rfl ?_
 refine wp_seq (ly0 w _ fun f0=>?_)
 refine wp_seq (ly1 w w f0 (Fr.refl _ _) fun f1 W1 q a1 a2 hq hL1 hf1=>?_)
 refine wp_seq (ly2 w W1 f1 hf1 q a1 a2 fun f2 W2 p b1 b2 b3 b4 hp hM2 hf2=>?_)
 refine wp_seq (ly3 W2 f2 q p b1 b2 b3 b4 fun f3 c1 c3=>?_)
 refine wp_seq (ly4 W2 f3 q p c1 c3 fun f4 d1 d3 d5=>?_)
 have hL2:=hL1.fr hf2
 refine wp_seq (ly5 w W2 _ q p f4 hL2 d1 d3 d5 fun f5 W3 R3 e1 e3 e5 hL3 hR3 hf3=>?_)
 have hz2:=hf2.size
 have hqW:q < W1.heap.size:=(hL1.2.1 q rfl).2
 have hpW:p < W2.heap.size:=(hM2.2.1 p rfl).2
 have hM3:=hM2.frT hf3 (fun k hk h=>by omega) fun k hk=>(hL2.2.1 k hk).1
 refine wp_seq (ly6 w W3 _ q p f5 hM3 e1 e3 e5 fun f6 W4 R4 g1 g3 hM4 hR4 hf4=>?_)
 have hL4:=hL3.frT hf4 (fun k hk h=>by
  rcases hR3 k hk with h' | h' <;> omega) fun k hk=>(hM3.2.1 k hk).1
 refine wp_seq (ly7 w W4 _ q p f6 hL4 g1 g3 fun f7 W5 v6 b6 h1 h3 h6 i6 hf5=>?_)
 have hM5:=hM4.fr hf5
 refine wp_seq (ly8 w W5 _ q p f7 v6 hM5 h1 h3 h6 fun f8 W6 v8 b8 j1 j3 j6 j8 i8 hf6=>?_)
 have hL6:=hL4.fr (hf5.then0 hf6)
 refine wp_seq (ly9 w W6 _ q p f8 v6 v8 hL6 j1 j3 j6 j8 fun f9 W7 v10 b10 k3 k6 k8 k10 i10 hf7=>?_)
 have hM7:=(hM5.fr hf6).fr hf7
 refine wp_seq (ly10 w W7 _ q p f9 v6 v8 v10 hM7 k3 k6 k8 k10 fun f10 W8 l6 l8 l10 l13 hf8=>?_)
 refine wp_seq (ly11 W8 f10 v6 v8 v10 b6 b8 b10 (i6.fr0 (hf6.then0 (hf7.then0 hf8))) (i8.fr0 (hf7.then0 hf8)) (i10.fr0 hf8) l6 l8 l10 l13 fun f11 W9 z0 hf9=>?_)
 refine wp_ret ?_
 exact bodyPost_ret (v:=.bool true) (by simp [results,frA,Tryz.results24,go_sem,z0]) rfl ⟨rfl,((hM7.fr hf8).fr hf9).2.2⟩
end Go.Proofs.YtefepfiijoafbaaGreat
