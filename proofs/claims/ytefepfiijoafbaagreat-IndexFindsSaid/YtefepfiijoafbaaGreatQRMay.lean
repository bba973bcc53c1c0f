/- RMay -/
import Derived.Test.YtefepfiijoafbaaGreatQIMay2
import Derived.Test.YtefepfiijoafbaaGreatQBS
set_option linter.unusedVariables false
set_option linter.unusedSimpArgs false
set_option maxRecDepth 100000
set_option maxHeartbeats 4000000
namespace Go.Proofs.YtefepfiijoafbaaGreat
open Go.RowKit Go.Shelf Go.Maps Go.Sort
attribute [local go_sem] Oper.semAt_some
attribute [local irreducible] wpQuiet
theorem allV_take(k:Int)(l:List Val){i:Nat}(h:i < l.length):allV k (l.take (i+1))=(allV k (l.take i) &&((l[i].k == k) && valMay l[i])):=by
 rw[List.take_succ_eq_append_getElem h];unfold allV;rw[List.any_append,Bool.not_or];simp [Bool.not_or]
theorem r19kinds_any(w:World)(b:Nat)(v:Value)(l:List Val)(h:RowsK Val.enc 5 w b v l)(hl:l.length≤9223372036854775807)(k:Int) :
  Calls Tryz.prog 104 #[v,.int .u8 k] w fun e w'=>e = .returned (.bool (allV k l))∧Fr N0 w w':=by
 obtain⟨a,off,cap,rfl,h1,h2,h3,-,h5⟩:=h
 obtain⟨n,hn⟩:∃ n,l.length=n:=⟨_,rfl⟩
 rw[hn] at h1 h3 hl ⊢
 have HN:=hhd hn;have HC:=hhd h5
 have hall:∀ i (h:i < l.length),((l[i].k == k) && valMay l[i])=false→allV k l=false:=fun i h e=>by
  unfold allV
  rw[Bool.eq_false_iff]
  intro hh
  simp only [Bool.not_eq_true',List.any_eq_false] at hh
  have:=hh l[i] (List.getElem_mem h)
  revert this e
  cases (l[i].k == k) <;> cases valMay l[i] <;> simp
 have hfin:allV k (l.take n)=true→allV k l=true:=fun h=>by rw[← hn,List.take_length] at h;exact h
 obtain⟨AV,hAV⟩:∃ AV,allV k l=AV:=⟨_,rfl⟩
 rw[hAV] at hfin ⊢
 simp only [hAV] at hall
 have HALL:=hhd hall;have HFIN:=hhd hfin
 clear hn h5 hall hAV hfin
 go_enter Tryz.func104,Tryz.ntmps104
 go_wp2_with fail
 go_loopw [5] (fun iv wr=>∃ i:Nat,i≤n∧iv = .int .i64 i∧Hid (allV k (l.take i)=true)∧Hid (Fr N0 w wr)) (fun iv _=>n - (intOf iv).toNat)
 case atStart=>exact⟨0,Nat.zero_le _,by first | rfl | go_num,(show allV k (l.take 0)=true from rfl),Fr.refl _ _⟩
 case round=>
  obtain⟨i,hi,rfl,hA,hF⟩:=hrel
  by_cases hlt:i < n
  ·obtain rfl:=h3 (by omega)
   have hx:i < l.length:=by rw[HN.out];exact hlt
   have hki:(i:Int) < (n:Int):=by omega
   have e0:=HC.out i hx 0 (by decide);have e1:=HC.out i hx 1 (by decide);have e2:=HC.out i hx 2 (by decide);have e3:=HC.out i hx 3 (by decide);have e4:=HC.out i hx 4 (by decide)
   have hnx:=allV_take k l hx
   have hno:=HALL.out i hx
   obtain⟨x,hxx⟩:∃ x,l[i]=x:=⟨_,rfl⟩
   rw[hxx] at hnx hno
   rw[hxx] at e0 e1 e2 e3 e4
   have hm:=fun W=>r3May_any x W
   obtain⟨M,hM⟩:∃ M,valMay x=M:=⟨_,rfl⟩
   rw[hM] at hnx hno
   simp only [hM] at hm
   obtain⟨xk,xb,xn,xs,xu⟩:=x
   simp only [Val.enc] at hm hnx hno
   simp only [Val.enc,List.getElem?_cons_zero,List.getElem?_cons_succ,Nat.add_zero] at e0 e1 e2 e3 e4
   replace e0:=hF.out.cell id e0;replace e1:=hF.out.cell id e1;replace e2:=hF.out.cell id e2;replace e3:=hF.out.cell id e3;replace e4:=hF.out.cell id e4
   obtain⟨q,hq⟩:∃ q,(xk == k)=q:=⟨_,rfl⟩
   rw[hq] at hnx hno
   have hq2:(xk != k) = !q:=by rw[← hq];rfl
   have HM:=hhd hm;have HA:=hhd hA.out;have HF:=hhd hF.out;have HNX:=hhd hnx;have HNO:=hhd hno
   clear hm hnx hno hA hF hM hxx hq
   cases q
   ·go_wp2_with fail
    go_ret
    exact⟨by rw[HNO.out rfl];rfl,HF.out⟩
   ·simp only [Bool.not_true] at hq2
    go_wp2_with fail
    refine(HM.out _).mono ?_
    rintro e w3 ⟨rfl,hf3⟩
    have HF3:=hhd (HF.out.then0 hf3)
    clear hf3
    cases M
    ·go_wp2_with fail
     go_ret
     exact⟨by rw[HNO.out rfl];rfl,HF3.out⟩
    ·go_wp2_with fail
     go_roundw
     case rel=>exact⟨i+1,by omega,by go_num,by rw[HNX.out,HA.out];rfl,HF3.out⟩
     case measure=>simp [intOf];omega
  ·obtain rfl:i=n:=by omega
   have hki:¬(i:Int) < (i:Int):=by omega
   have hA':=HFIN.out hA.out
   go_wp2_with fail
   go_ret
   exact⟨by first | rfl | (rw[hA'];rfl),hF.out⟩
section
variable (w:World) (pred:ByteArray) (back:Bool) (va ua sa:Option Addr) (n vc uc sc:Nat) (A:Int→Bool)
 (HP:Hid (∀ W,Calls Tryz.prog 103 #[.string pred] W fun e w'=>e = .returned (.bool true)∧w'=W))
 (HK:Hid (∀ W' k,Fr N0 w W'→Calls Tryz.prog 104 #[.slice va n vc,.int .u8 k] W' fun e w'=>e = .returned (.bool (A k))∧Fr N0 W' w'))
include HP HK
theorem may19_2:Calls Tryz.prog 37 #[.agg #[.int .u8 2,.string pred,.bool back,.slice va n vc,.slice ua 0 uc,.slice sa 0 sc]] w fun e w'=>e = .returned (.bool (valsR 2 n A))∧Fr N0 w w':=by
 cases back
 all_goals
  by_cases h0:n=0
  ·subst h0
   go_enter Tryz.func37,Tryz.ntmps37
   go_wp2_with fail
   refine(HP.out _).mono ?_
   rintro e w1 ⟨rfl,rfl⟩
   go_wp2_with fail
   go_ret
   exact⟨by simp [valsR],((Fr.refl N0 w).alloc _)⟩
  ·have h0':((n:Int) == 0)=false:=by simpa using h0
   go_enter Tryz.func37,Tryz.ntmps37
   go_wp2_with fail
   refine(HP.out _).mono ?_
   rintro e w1 ⟨rfl,rfl⟩
   go_wp2_with fail
   go_ret
   exact⟨by simp [valsR,h0],((Fr.refl N0 w).alloc _)⟩
theorem may19_3:Calls Tryz.prog 37 #[.agg #[.int .u8 3,.string pred,.bool false,.slice va n vc,.slice ua 0 uc,.slice sa 0 sc]] w fun e w'=>e = .returned (.bool (valsR 3 n A))∧Fr N0 w w':=by
 by_cases h1:1≤n
 ·have h1':(1:Int)≤(n:Int):=by omega
  by_cases h64:n≤64
  ·have h64':(n:Int)≤64:=by omega
   have hd:decide (0 < n∧n≤64)=true:=decide_eq_true ⟨h1,h64⟩
   cases a1:A 1
   ·cases a2:A 2
    ·go_enter Tryz.func37,Tryz.ntmps37
     go_wp2_with fail
     refine(HP.out _).mono ?_
     rintro e w1 ⟨rfl,rfl⟩
     go_wp2_with fail
     refine(HK.out _ _ ((Fr.refl N0 w).alloc _)).mono ?_
     rintro e w2 ⟨rfl,hf2⟩
     have hg2:=((Fr.refl N0 w).alloc _).then0 hf2
     have hb2:=(hf2.at (k:=w.heap.size) id (lt_of_block (World.alloc_heap_new w _))).trans (World.alloc_heap_new w _)
     obtain⟨m2,n2,l2⟩:=box_cells hb2
     try rw[a1]
     go_wp2_with fail
     refine(HK.out _ _ hg2).mono ?_
     rintro e w3 ⟨rfl,hf3⟩
     have hg3:=hg2.then0 hf3
     have hb3:=(hf3.at (k:=w.heap.size) id (lt_of_block hb2)).trans hb2
     obtain⟨m3,n3,l3⟩:=box_cells hb3
     try rw[a2]
     go_wp2_with fail
     refine(HK.out _ _ hg3).mono ?_
     rintro e w4 ⟨rfl,hf4⟩
     have hg4:=hg3.then0 hf4
     have hb4:=(hf4.at (k:=w.heap.size) id (lt_of_block hb3)).trans hb3
     obtain⟨m4,n4,l4⟩:=box_cells hb4
     skip
     go_wp2_with fail
     go_ret
     exact⟨by simp [valsR,hd,a1,a2],hg4⟩
    ·go_enter Tryz.func37,Tryz.ntmps37
     go_wp2_with fail
     refine(HP.out _).mono ?_
     rintro e w1 ⟨rfl,rfl⟩
     go_wp2_with fail
     refine(HK.out _ _ ((Fr.refl N0 w).alloc _)).mono ?_
     rintro e w2 ⟨rfl,hf2⟩
     have hg2:=((Fr.refl N0 w).alloc _).then0 hf2
     have hb2:=(hf2.at (k:=w.heap.size) id (lt_of_block (World.alloc_heap_new w _))).trans (World.alloc_heap_new w _)
     obtain⟨m2,n2,l2⟩:=box_cells hb2
     try rw[a1]
     go_wp2_with fail
     refine(HK.out _ _ hg2).mono ?_
     rintro e w3 ⟨rfl,hf3⟩
     have hg3:=hg2.then0 hf3
     have hb3:=(hf3.at (k:=w.heap.size) id (lt_of_block hb2)).trans hb2
     obtain⟨m3,n3,l3⟩:=box_cells hb3
     try rw[a2]
     go_wp2_with fail
     go_ret
     exact⟨by simp [valsR,hd,a1,a2],hg3⟩
   ·go_enter Tryz.func37,Tryz.ntmps37
    go_wp2_with fail
    refine(HP.out _).mono ?_
    rintro e w1 ⟨rfl,rfl⟩
    go_wp2_with fail
    refine(HK.out _ _ ((Fr.refl N0 w).alloc _)).mono ?_
    rintro e w2 ⟨rfl,hf2⟩
    have hg2:=((Fr.refl N0 w).alloc _).then0 hf2
    have hb2:=(hf2.at (k:=w.heap.size) id (lt_of_block (World.alloc_heap_new w _))).trans (World.alloc_heap_new w _)
    obtain⟨m2,n2,l2⟩:=box_cells hb2
    try rw[a1]
    go_wp2_with fail
    go_ret
    exact⟨by simp [valsR,hd,a1],hg2⟩
  ·have h64':¬(n:Int)≤64:=by omega
   have hd:decide (0 < n∧n≤64)=false:=decide_eq_false (by omega)
   go_enter Tryz.func37,Tryz.ntmps37
   go_wp2_with fail
   refine(HP.out _).mono ?_
   rintro e w1 ⟨rfl,rfl⟩
   go_wp2_with fail
   go_ret
   exact⟨by simp [valsR,hd],((Fr.refl N0 w).alloc _)⟩
 ·have h1':¬(1:Int)≤(n:Int):=by omega
  have hd:decide (0 < n∧n≤64)=false:=decide_eq_false (by omega)
  go_enter Tryz.func37,Tryz.ntmps37
  go_wp2_with fail
  refine(HP.out _).mono ?_
  rintro e w1 ⟨rfl,rfl⟩
  go_wp2_with fail
  go_ret
  exact⟨by simp [valsR,hd],((Fr.refl N0 w).alloc _)⟩
theorem may19_4:Calls Tryz.prog 37 #[.agg #[.int .u8 4,.string pred,.bool false,.slice va n vc,.slice ua 0 uc,.slice sa 0 sc]] w fun e w'=>e = .returned (.bool (valsR 4 n A))∧Fr N0 w w':=by
 by_cases h1:n=1
 ·subst h1
  go_enter Tryz.func37,Tryz.ntmps37
  go_wp2_with fail
  refine(HP.out _).mono ?_
  rintro e w1 ⟨rfl,rfl⟩
  go_wp2_with fail
  refine(HK.out _ _ ((Fr.refl N0 w).alloc _)).mono ?_
  rintro e w2 ⟨rfl,hf2⟩
  have hg2:=((Fr.refl N0 w).alloc _).then0 hf2
  have hb2:=(hf2.at (k:=w.heap.size) id (lt_of_block (World.alloc_heap_new w _))).trans (World.alloc_heap_new w _)
  obtain⟨m2,n2,l2⟩:=box_cells hb2
  skip
  go_wp2_with fail
  go_ret
  exact⟨by simp [valsR],hg2⟩
 ·have h1':((n:Int) == 1)=false:=by simp;omega
  go_enter Tryz.func37,Tryz.ntmps37
  go_wp2_with fail
  refine(HP.out _).mono ?_
  rintro e w1 ⟨rfl,rfl⟩
  go_wp2_with fail
  go_ret
  exact⟨by simp [valsR,h1],((Fr.refl N0 w).alloc _)⟩
theorem may19_5:Calls Tryz.prog 37 #[.agg #[.int .u8 5,.string pred,.bool false,.slice va n vc,.slice ua 0 uc,.slice sa 0 sc]] w fun e w'=>e = .returned (.bool (valsR 5 n A))∧Fr N0 w w':=by
 by_cases h1:n=1
 ·subst h1
  go_enter Tryz.func37,Tryz.ntmps37
  go_wp2_with fail
  refine(HP.out _).mono ?_
  rintro e w1 ⟨rfl,rfl⟩
  go_wp2_with fail
  refine(HK.out _ _ ((Fr.refl N0 w).alloc _)).mono ?_
  rintro e w2 ⟨rfl,hf2⟩
  have hg2:=((Fr.refl N0 w).alloc _).then0 hf2
  have hb2:=(hf2.at (k:=w.heap.size) id (lt_of_block (World.alloc_heap_new w _))).trans (World.alloc_heap_new w _)
  obtain⟨m2,n2,l2⟩:=box_cells hb2
  skip
  go_wp2_with fail
  go_ret
  exact⟨by simp [valsR],hg2⟩
 ·have h1':((n:Int) == 1)=false:=by simp;omega
  go_enter Tryz.func37,Tryz.ntmps37
  go_wp2_with fail
  refine(HP.out _).mono ?_
  rintro e w1 ⟨rfl,rfl⟩
  go_wp2_with fail
  go_ret
  exact⟨by simp [valsR,h1],((Fr.refl N0 w).alloc _)⟩
theorem may19_6:Calls Tryz.prog 37 #[.agg #[.int .u8 6,.string pred,.bool false,.slice va n vc,.slice ua 0 uc,.slice sa 0 sc]] w fun e w'=>e = .returned (.bool (valsR 6 n A))∧Fr N0 w w':=by
 by_cases h1:n=1
 ·subst h1
  go_enter Tryz.func37,Tryz.ntmps37
  go_wp2_with fail
  refine(HP.out _).mono ?_
  rintro e w1 ⟨rfl,rfl⟩
  go_wp2_with fail
  refine(HK.out _ _ ((Fr.refl N0 w).alloc _)).mono ?_
  rintro e w2 ⟨rfl,hf2⟩
  have hg2:=((Fr.refl N0 w).alloc _).then0 hf2
  have hb2:=(hf2.at (k:=w.heap.size) id (lt_of_block (World.alloc_heap_new w _))).trans (World.alloc_heap_new w _)
  obtain⟨m2,n2,l2⟩:=box_cells hb2
  skip
  go_wp2_with fail
  go_ret
  exact⟨by simp [valsR],hg2⟩
 ·have h1':((n:Int) == 1)=false:=by simp;omega
  go_enter Tryz.func37,Tryz.ntmps37
  go_wp2_with fail
  refine(HP.out _).mono ?_
  rintro e w1 ⟨rfl,rfl⟩
  go_wp2_with fail
  go_ret
  exact⟨by simp [valsR,h1],((Fr.refl N0 w).alloc _)⟩
theorem may19_7:Calls Tryz.prog 37 #[.agg #[.int .u8 7,.string pred,.bool false,.slice va n vc,.slice ua 0 uc,.slice sa 0 sc]] w fun e w'=>e = .returned (.bool (valsR 7 n A))∧Fr N0 w w':=by
 by_cases h1:n=1
 ·subst h1
  go_enter Tryz.func37,Tryz.ntmps37
  go_wp2_with fail
  refine(HP.out _).mono ?_
  rintro e w1 ⟨rfl,rfl⟩
  go_wp2_with fail
  refine(HK.out _ _ ((Fr.refl N0 w).alloc _)).mono ?_
  rintro e w2 ⟨rfl,hf2⟩
  have hg2:=((Fr.refl N0 w).alloc _).then0 hf2
  have hb2:=(hf2.at (k:=w.heap.size) id (lt_of_block (World.alloc_heap_new w _))).trans (World.alloc_heap_new w _)
  obtain⟨m2,n2,l2⟩:=box_cells hb2
  skip
  go_wp2_with fail
  go_ret
  exact⟨by simp [valsR],hg2⟩
 ·have h1':((n:Int) == 1)=false:=by simp;omega
  go_enter Tryz.func37,Tryz.ntmps37
  go_wp2_with fail
  refine(HP.out _).mono ?_
  rintro e w1 ⟨rfl,rfl⟩
  go_wp2_with fail
  go_ret
  exact⟨by simp [valsR,h1],((Fr.refl N0 w).alloc _)⟩
theorem may19_8:Calls Tryz.prog 37 #[.agg #[.int .u8 8,.string pred,.bool false,.slice va n vc,.slice ua 0 uc,.slice sa 0 sc]] w fun e w'=>e = .returned (.bool (valsR 8 n A))∧Fr N0 w w':=by
 by_cases h1:n=1
 ·subst h1
  go_enter Tryz.func37,Tryz.ntmps37
  go_wp2_with fail
  refine(HP.out _).mono ?_
  rintro e w1 ⟨rfl,rfl⟩
  go_wp2_with fail
  refine(HK.out _ _ ((Fr.refl N0 w).alloc _)).mono ?_
  rintro e w2 ⟨rfl,hf2⟩
  have hg2:=((Fr.refl N0 w).alloc _).then0 hf2
  have hb2:=(hf2.at (k:=w.heap.size) id (lt_of_block (World.alloc_heap_new w _))).trans (World.alloc_heap_new w _)
  obtain⟨m2,n2,l2⟩:=box_cells hb2
  skip
  go_wp2_with fail
  go_ret
  exact⟨by simp [valsR],hg2⟩
 ·have h1':((n:Int) == 1)=false:=by simp;omega
  go_enter Tryz.func37,Tryz.ntmps37
  go_wp2_with fail
  refine(HP.out _).mono ?_
  rintro e w1 ⟨rfl,rfl⟩
  go_wp2_with fail
  go_ret
  exact⟨by simp [valsR,h1],((Fr.refl N0 w).alloc _)⟩
theorem may19_9:Calls Tryz.prog 37 #[.agg #[.int .u8 9,.string pred,.bool false,.slice va n vc,.slice ua 0 uc,.slice sa 0 sc]] w fun e w'=>e = .returned (.bool (valsR 9 n A))∧Fr N0 w w':=by
 by_cases h1:n=1
 ·subst h1
  go_enter Tryz.func37,Tryz.ntmps37
  go_wp2_with fail
  refine(HP.out _).mono ?_
  rintro e w1 ⟨rfl,rfl⟩
  go_wp2_with fail
  refine(HK.out _ _ ((Fr.refl N0 w).alloc _)).mono ?_
  rintro e w2 ⟨rfl,hf2⟩
  have hg2:=((Fr.refl N0 w).alloc _).then0 hf2
  have hb2:=(hf2.at (k:=w.heap.size) id (lt_of_block (World.alloc_heap_new w _))).trans (World.alloc_heap_new w _)
  obtain⟨m2,n2,l2⟩:=box_cells hb2
  skip
  go_wp2_with fail
  go_ret
  exact⟨by simp [valsR],hg2⟩
 ·have h1':((n:Int) == 1)=false:=by simp;omega
  go_enter Tryz.func37,Tryz.ntmps37
  go_wp2_with fail
  refine(HP.out _).mono ?_
  rintro e w1 ⟨rfl,rfl⟩
  go_wp2_with fail
  go_ret
  exact⟨by simp [valsR,h1],((Fr.refl N0 w).alloc _)⟩
theorem may19_11:Calls Tryz.prog 37 #[.agg #[.int .u8 11,.string pred,.bool back,.slice va n vc,.slice ua 0 uc,.slice sa 0 sc]] w fun e w'=>e = .returned (.bool (valsR 11 n A))∧Fr N0 w w':=by
 cases back
 all_goals
  by_cases h1:n=1
  ·subst h1
   go_enter Tryz.func37,Tryz.ntmps37
   go_wp2_with fail
   refine(HP.out _).mono ?_
   rintro e w1 ⟨rfl,rfl⟩
   go_wp2_with fail
   refine(HK.out _ _ ((Fr.refl N0 w).alloc _)).mono ?_
   rintro e w2 ⟨rfl,hf2⟩
   have hg2:=((Fr.refl N0 w).alloc _).then0 hf2
   have hb2:=(hf2.at (k:=w.heap.size) id (lt_of_block (World.alloc_heap_new w _))).trans (World.alloc_heap_new w _)
   obtain⟨m2,n2,l2⟩:=box_cells hb2
   skip
   go_wp2_with fail
   go_ret
   exact⟨by simp [valsR],hg2⟩
  ·have h1':((n:Int) == 1)=false:=by simp;omega
   go_enter Tryz.func37,Tryz.ntmps37
   go_wp2_with fail
   refine(HP.out _).mono ?_
   rintro e w1 ⟨rfl,rfl⟩
   go_wp2_with fail
   go_ret
   exact⟨by simp [valsR,h1],((Fr.refl N0 w).alloc _)⟩
theorem may19_10:Calls Tryz.prog 37 #[.agg #[.int .u8 10,.string pred,.bool false,.slice va n vc,.slice ua 0 uc,.slice sa 0 sc]] w fun e w'=>e = .returned (.bool (valsR 10 n A))∧Fr N0 w w':=by
 by_cases h1:n=2
 ·subst h1
  go_enter Tryz.func37,Tryz.ntmps37
  go_wp2_with fail
  refine(HP.out _).mono ?_
  rintro e w1 ⟨rfl,rfl⟩
  go_wp2_with fail
  refine(HK.out _ _ ((Fr.refl N0 w).alloc _)).mono ?_
  rintro e w2 ⟨rfl,hf2⟩
  have hg2:=((Fr.refl N0 w).alloc _).then0 hf2
  have hb2:=(hf2.at (k:=w.heap.size) id (lt_of_block (World.alloc_heap_new w _))).trans (World.alloc_heap_new w _)
  obtain⟨m2,n2,l2⟩:=box_cells hb2
  skip
  go_wp2_with fail
  go_ret
  exact⟨by simp [valsR],hg2⟩
 ·have h1':((n:Int) == 2)=false:=by simp;omega
  go_enter Tryz.func37,Tryz.ntmps37
  go_wp2_with fail
  refine(HP.out _).mono ?_
  rintro e w1 ⟨rfl,rfl⟩
  go_wp2_with fail
  go_ret
  exact⟨by simp [valsR,h1],((Fr.refl N0 w).alloc _)⟩
omit HK in
theorem may19_no(kd:Int)(hk:kd≠2∧kd≠3∧kd≠4∧kd≠5∧kd≠6∧kd≠7∧kd≠8∧kd≠9∧kd≠10∧kd≠11):Calls Tryz.prog 37 #[.agg #[.int .u8 kd,.string pred,.bool false,.slice va n vc,.slice ua 0 uc,.slice sa 0 sc]] w fun e w'=>e = .returned (.bool (valsR kd n A))∧Fr N0 w w':=by
 obtain⟨c2,c3,c4,c5,c6,c7,c8,c9,c10,c11⟩:=hk
 have d2:(kd == 2)=false:=by simpa using c2
 have d3:(kd == 3)=false:=by simpa using c3
 have d4:(kd == 4)=false:=by simpa using c4
 have d5:(kd == 5)=false:=by simpa using c5
 have d6:(kd == 6)=false:=by simpa using c6
 have d7:(kd == 7)=false:=by simpa using c7
 have d8:(kd == 8)=false:=by simpa using c8
 have d9:(kd == 9)=false:=by simpa using c9
 have d10:(kd == 10)=false:=by simpa using c10
 have d11:(kd == 11)=false:=by simpa using c11
 go_enter Tryz.func37,Tryz.ntmps37
 go_wp2_with fail
 refine(HP.out _).mono ?_
 rintro e w1 ⟨rfl,rfl⟩
 go_wp2_with fail
 go_ret
 exact⟨by simp [valsR,c2,c3,c4,c5,c6,c7,c8,c9,c10,c11],((Fr.refl N0 w).alloc _)⟩
end
theorem may19_bad(w:World)(kd:Int)(pred:ByteArray)(back:Bool)(vv:Value)(ua sa:Option Addr)(nu uc ns sc:Nat)(P:Bool)
  (HP:Hid (∀ W,Calls Tryz.prog 103 #[.string pred] W fun e w'=>e = .returned (.bool P)∧w'=W)) (hbad:P=false∨nu≠0∨ns≠0∨(back=true∧kd≠2∧kd≠11)) :
  Calls Tryz.prog 37 #[.agg #[.int .u8 kd,.string pred,.bool back,vv,.slice ua nu uc,.slice sa ns sc]] w fun e w'=>e = .returned (.bool false)∧Fr N0 w w':=by
 cases P
 ·go_enter Tryz.func37,Tryz.ntmps37
  go_wp2_with fail
  refine(HP.out _).mono ?_
  rintro e w1 ⟨rfl,rfl⟩
  go_wp2_with fail
  go_ret
  exact⟨rfl,(Fr.refl N0 w).alloc _⟩
 ·by_cases hu:nu=0
  ·subst hu
   by_cases hs:ns=0
   ·subst hs
    obtain⟨rfl,c2,c11⟩:back=true∧kd≠2∧kd≠11:=by simpa using hbad
    have d2:(kd != 2)=true:=by simpa using c2
    have d11:(kd != 11)=true:=by simpa using c11
    go_enter Tryz.func37,Tryz.ntmps37
    go_wp2_with fail
    refine(HP.out _).mono ?_
    rintro e w1 ⟨rfl,rfl⟩
    go_wp2_with fail
    go_ret
    exact⟨rfl,(Fr.refl N0 w).alloc _⟩
   ·have hs':(0:Int) < (ns:Int):=by omega
    go_enter Tryz.func37,Tryz.ntmps37
    go_wp2_with fail
    refine(HP.out _).mono ?_
    rintro e w1 ⟨rfl,rfl⟩
    go_wp2_with fail
    go_ret
    exact⟨rfl,(Fr.refl N0 w).alloc _⟩
  ·have hu':(0:Int) < (nu:Int):=by omega
   go_enter Tryz.func37,Tryz.ntmps37
   go_wp2_with fail
   refine(HP.out _).mono ?_
   rintro e w1 ⟨rfl,rfl⟩
   go_wp2_with fail
   go_ret
   exact⟨rfl,(Fr.refl N0 w).alloc _⟩
theorem r19May_any(w:World)(b:Nat)(f:Fn)(vv uv sv:Value)(h:FnAt w b f vv uv sv) :
  Calls Tryz.prog 37 #[.agg (f.enc vv uv sv)] w fun e w'=>e = .returned (.bool (decide (fnMay f=0)))∧Fr N0 w w':=by
 have hk:=fun w' k (hf:Fr N0 w w')=>r19kinds_any w' b vv f.vals (h.fr hf).vals h.len k
 obtain⟨ua,uc,rfl⟩:=h.uids
 obtain⟨sa,sc,rfl⟩:=h.vars
 obtain⟨va,voff,vc,rfl,-⟩:=h.vals
 obtain⟨kd,pred,back,vals,nu,ns⟩:=f
 have hp:=fun W=>r4Pred_any pred W
 unfold fnMay
 simp only [Fn.enc] at *
 obtain⟨P,hP⟩:∃ P,predOk pred=P:=⟨_,rfl⟩
 simp only [hP] at hp ⊢
 have HP:=hhd hp
 by_cases hbad:P=false∨nu≠0∨ns≠0∨(back=true∧kd≠2∧kd≠11)
 ·refine(may19_bad w kd pred back _ ua sa nu uc ns sc P HP hbad).mono fun e w' hh=>?_
  obtain⟨rfl,hf⟩:=hh
  refine⟨?_,hf⟩
  have:mayR P (decide (nu=0)) (decide (ns=0)) (kd == 2 || kd == 11) back (valsOk kd vals)≠0:=by
   unfold mayR
   rcases hbad with rfl | h | h | ⟨rfl,h2,h11⟩
   ·simp
   ·simp [h]
   ·simp [h]
   ·have e2:(kd == 2)=false:=by simpa using h2
    have e11:(kd == 11)=false:=by simpa using h11
    simp [e2,e11]
  rw[decide_eq_false this]
 ·simp only [not_or,not_and,Classical.not_not,Bool.not_eq_false] at hbad
  obtain⟨rfl,rfl,rfl,hb⟩:=hbad
  have hmy:decide (mayR true (decide (0=0)) (decide (0=0)) (kd == 2 || kd == 11) back (valsOk kd vals)=0)=valsOk kd vals:=by
   unfold mayR
   cases back
   ·cases valsOk kd vals <;> simp
   ·have:kd=2∨kd=11:=by
     by_cases h2:kd=2
     ·exact .inl h2
     ·exact .inr (hb rfl h2)
    rcases this with rfl | rfl <;> cases valsOk _ vals <;> simp
  rw[hmy]
  unfold valsOk
  obtain⟨A,hA⟩:∃ A,(fun k=>allV k vals)=A:=⟨_,rfl⟩
  have hk2:∀ w' k,Fr N0 w w'→Calls Tryz.prog 104 #[.slice va vals.length vc,.int .u8 k] w' fun e w2=>e = .returned (.bool (A k))∧Fr N0 w' w2:=by rw[← hA];exact hk
  rw[hA]
  have HK:=hhd hk2
  by_cases c2:kd=2
  ·subst c2;exact may19_2 w pred back va ua sa _ vc uc sc A HP HK
  by_cases c11:kd=11
  ·subst c11;exact may19_11 w pred back va ua sa _ vc uc sc A HP HK
  obtain rfl:back=false:=by
   cases back
   ·rfl
   ·exact absurd (hb rfl c2) c11
  by_cases c3:kd=3
  ·subst c3;exact may19_3 w pred va ua sa _ vc uc sc A HP HK
  by_cases c4:kd=4
  ·subst c4;exact may19_4 w pred va ua sa _ vc uc sc A HP HK
  by_cases c5:kd=5
  ·subst c5;exact may19_5 w pred va ua sa _ vc uc sc A HP HK
  by_cases c6:kd=6
  ·subst c6;exact may19_6 w pred va ua sa _ vc uc sc A HP HK
  by_cases c7:kd=7
  ·subst c7;exact may19_7 w pred va ua sa _ vc uc sc A HP HK
  by_cases c8:kd=8
  ·subst c8;exact may19_8 w pred va ua sa _ vc uc sc A HP HK
  by_cases c9:kd=9
  ·subst c9;exact may19_9 w pred va ua sa _ vc uc sc A HP HK
  by_cases c10:kd=10
  ·subst c10;exact may19_10 w pred va ua sa _ vc uc sc A HP HK
  exact may19_no w pred va ua sa _ vc uc sc A HP kd ⟨c2,c3,c4,c5,c6,c7,c8,c9,c10,c11⟩
end Go.Proofs.YtefepfiijoafbaaGreat
