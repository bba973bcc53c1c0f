/- RkH RkH2 -/
import Derived.Test.YtefepfiijoafbaaGreatQRkM3
set_option linter.unusedVariables false
set_option linter.unusedSimpArgs false
set_option maxRecDepth 100000
set_option maxHeartbeats 2000000
namespace Go.Proofs.YtefepfiijoafbaaGreat
open Go.RowKit Go.Shelf
attribute [local go_sem] Oper.semAt_some
attribute [local irreducible] wpQuiet
def BoolEnd(e:Ending):Prop:=∃ b,e = .returned (.bool b)
theorem qless_at{w:World}{hb base:Nat}{v:Value}{down:Bool}{H:List Rk}(hbx:QBox w hb v down)(h:RkRow w base v H)(hok:∀ r ∈ H,r.Ok)(i k:Nat)(hi:i < H.length)(hk:k < H.length)(c:Bool)(hc:decide (keyAt down H i < keyAt down H k)=c) :
  Calls Tryz.prog 294 #[.pointer (some ⟨hb,0,none⟩),.int .i64 i,.int .i64 k] w fun e w'=>e = .returned (.bool c)∧Fr N0 w w':=by
 rw[← hc,keyAt_get hi,keyAt_get hk,← rkLess_key down (hok _ (List.getElem_mem hi)) (hok _ (List.getElem_mem hk))];exact qless_any w hb base v down H hbx h i k hi hk
theorem up_any(w:World)(base hb:Nat)(v:Value)(down:Bool)(H:List Rk)(hok:∀ r ∈ H,r.Ok)(h:RkRow w base v H)(hbx:QBox w hb v down)(hl:H.length≤1099511627776)(j:Nat)(hj:j < H.length)(hu:UpF (keyAt down H) H.length j) :
  Calls Tryz.prog 142 #[.iface 158 (.pointer (some ⟨hb,0,none⟩)),.int .i64 j] w fun e w'=>(∃ u,e = .returned u)∧∃ H',RkRow w' base v H'∧H'.Perm H∧IsHp (keyAt down H') H'.length∧Fr (fun q=>v.ownBlock=some q) w w':=by
 have hbW:=fun W (hW:Fr (fun q=>v.ownBlock=some q) w W)=>QBox.fr hbx h hW
 have HOK:=hhd hok;have HBW:=hhd hbW;have H0:=hhd h;have HU:=hhd hu
 clear hbW h hbx hu
 have hml:=qm_less hb;have hms:=qm_swap hb;have hmn:=qm_len hb;have hmp:=qm_push hb;have hmo:=qm_pop hb
 go_enter Tryz.func142,Tryz.ntmps142
 go_wp2
 go_loopw [1] (fun jv wr=>∃ (j:Nat) (H':List Rk),jv = .int .i64 j∧j < H'.length∧H'.length=H.length∧RkRow wr base v H'∧Hid (H'.Perm H)∧Hid (UpF (keyAt down H') H'.length j)∧Fr (fun q=>v.ownBlock=some q) w wr) (fun jv _=>(intOf jv).toNat)
 case atStart=>exact⟨j,H,rfl,hj,rfl,H0.out,List.Perm.refl _,HU.out,Fr.refl _ _⟩
 case round=>
  obtain⟨i,H',rfl,hi,hlen,hrow,hp,hup,hfr⟩:=hrel
  have hbq:=HBW.out wr hfr
  have hok':∀ r ∈ H',r.Ok:=fun r hr=>HOK.out r (hp.out.mem_iff.1 hr)
  by_cases hi0:i=0
  ·subst hi0
   have hq:IntKind.i64.wrap (-1) = -1:=IntWalk.i64_in _ (by omega)
   have hend:=up_done hup.out (.inl rfl)
   have HE:=hhd hend;have HR:=hhd hrow;have HF:=hhd hfr
   clear hend hrow hfr
   go_wp2
   go_end0
   exact⟨⟨_,rfl⟩,H',HR.out,hp.out,HE.out,HF.out⟩
  ·obtain⟨m,rfl⟩:∃ m,i=m+1:=⟨i - 1,by omega⟩
   have i1:IntKind.i64.wrap ((m:Int)+1 - 1)=(m:Int):=by rw[IntWalk.i64_in _ (by omega)];omega
   have i2:IntKind.i64.wrap (m:Int)=(m:Int):=IntWalk.i64_in _ (by omega)
   obtain⟨i,hi2⟩:∃ i,m / 2=i:=⟨_,rfl⟩
   have hdiv:(m:Int) / 2=(i:Int):=by omega
   have hne:¬(i:Int)=(m:Int)+1:=by omega
   have hil:i < H'.length:=by omega
   have hpar:(m+1 - 1) / 2=i:=by omega
   have hcast:((m+1:Nat):Int)=(m:Int)+1:=by omega
   by_cases hlt:keyAt down H' (m+1) < keyAt down H' i
   ·have hle:=qless_at hbq hrow hok' (m+1) i hi hil true (by simpa using hlt)
    have hsw:=fun W (hW:Fr N0 wr W)=>qswap_any W hb base v down H' (hbq.fr0 hW) (hrow.fr hW fun _ _=>id) i (m+1) hil hi
    have hst:=up_step hup.out (by omega) hi (by rw[hpar];exact hlt)
    rw[hpar] at hst
    have hkey:=swapR_key (down:=down) hil hi
    have hlen2:=swapR_length hil hi
    have hper:=swapR_perm hil hi
    rw[hcast] at hle
    simp only [hcast] at hsw
    rw[← hkey,← hlen2] at hst
    have HLE:=hhd hle;have HSW:=hhd hsw;have HST:=hhd hst;have HPE:=hhd (hper.trans hp.out);have HF:=hhd hfr;have HL2:=hhd hlen2
    clear hbq hok' hle hsw hst hkey hper hrow hup hlt hp hfr hlen2
    go_wp2_with (first
     |(go_at_call 294;refine HLE.out.mono ?_;rintro e w1 ⟨rfl,hf1⟩)
     |(go_at_call 297;refine(HSW.out _ hf1).mono ?_;rintro e w2 ⟨⟨u,rfl⟩,hr2,hf2⟩))
    go_roundw
    case rel=>exact⟨i,swapR H' i (m+1),rfl,by have:=HL2.out;omega,by have:=HL2.out;omega,hr2,HPE.out,HST.out,(HF.out.trans hf1 fun _ h=>h.elim).trans hf2 fun _ h=>.inl h⟩
    case measure=>simp [intOf];omega
   ·have hle:=qless_at hbq hrow hok' (m+1) i hi hil false (by simpa using hlt)
    have hend:=up_done hup.out (.inr (by rw[hpar];exact hlt))
    rw[hcast] at hle
    have HLE:=hhd hle;have HE:=hhd hend;have HR:=hhd hrow;have HF:=hhd hfr
    clear hbq hok' hle hend hrow hfr hup hlt
    go_wp2_with (go_at_call 294;refine HLE.out.mono ?_;rintro e w1 ⟨rfl,hf1⟩)
    go_end0
    exact⟨⟨_,rfl⟩,H',HR.out.fr hf1 (fun _ _=>id),hp.out,HE.out,HF.out.trans hf1 fun _ h=>h.elim⟩
theorem down_any(w:World)(base hb:Nat)(v:Value)(down:Bool)(H:List Rk)(hok:∀ r ∈ H,r.Ok)(h:RkRow w base v H)(hbx:QBox w hb v down)(hl:H.length≤1099511627776)(n:Nat)(hn:n≤H.length)(hd:DownF (keyAt down H) n 0) :
  Calls Tryz.prog 143 #[.iface 158 (.pointer (some ⟨hb,0,none⟩)),.int .i64 0,.int .i64 n] w fun e w'=>BoolEnd e∧∃ H',RkRow w' base v H'∧H'.Perm H∧IsHp (keyAt down H') n∧(∀ x,n≤x→H'[x]?=H[x]?)∧Fr (fun q=>v.ownBlock=some q) w w':=by
 have hbW:=fun W (hW:Fr (fun q=>v.ownBlock=some q) w W)=>QBox.fr hbx h hW
 have HOK:=hhd hok;have HBW:=hhd hbW;have H0:=hhd h;have HD:=hhd hd
 clear hbW h hbx hd
 have hml:=qm_less hb;have hms:=qm_swap hb;have hmn:=qm_len hb;have hmp:=qm_push hb;have hmo:=qm_pop hb
 go_enter Tryz.func143,Tryz.ntmps143
 go_wp2
 go_loopw [7] (fun iv wr=>∃ (i:Nat) (H':List Rk),iv = .int .i64 i∧(i=0∨i < n)∧H'.length=H.length∧RkRow wr base v H'∧Hid (H'.Perm H)∧Hid (DownF (keyAt down H') n i)∧Hid (∀ x,n≤x→H'[x]?=H[x]?)∧Fr (fun q=>v.ownBlock=some q) w wr) (fun iv _=>n - (intOf iv).toNat)
 case atStart=>exact⟨0,H,rfl,.inl rfl,rfl,H0.out,List.Perm.refl _,HD.out,fun _ _=>rfl,Fr.refl _ _⟩
 case round=>
  obtain⟨i,H',rfl,hi,hlen,hrow,hp,hdn,hrest,hfr⟩:=hrel
  have hbq:=HBW.out wr hfr
  have hok':∀ r ∈ H',r.Ok:=fun r hr=>HOK.out r (hp.out.mem_iff.1 hr)
  have i1:IntKind.i64.wrap (2 * (i:Int))=2 * (i:Int):=IntWalk.i64_in _ (by omega)
  have i2:IntKind.i64.wrap (2 * (i:Int)+1)=2 * (i:Int)+1:=IntWalk.i64_in _ (by omega)
  have i3:IntKind.i64.wrap (2 * (i:Int)+1+1)=2 * (i:Int)+1+1:=IntWalk.i64_in _ (by omega)
  have i4:¬(2 * (i:Int)+1 < 0):=by omega
  by_cases hc1:2 * i+1 < n
  ·have g1:¬(n:Int)≤2 * (i:Int)+1:=by omega
   have hil:i < H'.length:=by omega
   have less1:=fun c (hc:decide (keyAt down H' (2 * i+2) < keyAt down H' (2 * i+1))=c) (h2:2 * i+2 < n)=>qless_at hbq hrow hok' (2 * i+2) (2 * i+1) (by omega) (by omega) c hc
   rw[show((2 * i+2:Nat):Int)=2 * (i:Int)+1+1 by omega,show((2 * i+1:Nat):Int)=2 * (i:Int)+1 by omega] at less1
   by_cases h2:2 * i+2 < n
   ·have g2:2 * (i:Int)+1+1 < (n:Int):=by omega
    by_cases h12:keyAt down H' (2 * i+2) < keyAt down H' (2 * i+1)
    ·have hmin:∀ c,c < n→(c=2 * i+1∨c=2 * i+2)→keyAt down H' (2 * i+2)≤keyAt down H' c:=fun c h1 h2=>by
      rcases h2 with rfl | rfl <;> omega
     have hjn:2 * i+2 < n:=by omega
     have hjl:2 * i+2 < H'.length:=by omega
     by_cases hlt:keyAt down H' (2 * i+2) < keyAt down H' i
     ·have hle:=fun W (hW:Fr N0 wr W)=>qless_at (hbq.fr0 hW) (hrow.fr hW fun _ _=>id) hok' (2 * i+2) i hjl hil true (by simpa using hlt)
      have hsw:=fun W (hW:Fr N0 wr W)=>qswap_any W hb base v down H' (hbq.fr0 hW) (hrow.fr hW fun _ _=>id) i (2 * i+2) hil hjl
      have hst:=down_step hdn.out (j:=2 * i+2) (by omega) hjn hmin hlt
      rw[← swapR_key hil hjl] at hst
      have hlen2:=swapR_length hil hjl
      have hper:=(swapR_perm hil hjl).trans hp.out
      have hres:∀ x,n≤x→(swapR H' i (2 * i+2))[x]?=H[x]?:=fun x hx=>by
       rw[swapR_get hil hjl,if_neg (by omega),if_neg (by omega)];exact hrest.out x hx
      rw[show((2 * i+2:Nat):Int)=2 * (i:Int)+1+1 by omega] at hle hsw
      have HLE:=hhd hle;have HSW:=hhd hsw;have HST:=hhd hst;have HPE:=hhd hper;have HF:=hhd hfr;have HL2:=hhd hlen2;have HRS:=hhd hres
      have HL1:=hhd (less1 true (by simpa using h12) h2)
      clear hbq hok' hle hsw hst hper hrow hdn hlt hp hfr hlen2 hres hmin less1
      go_wp2_with (first
       |(go_at_call 294;have hq:=hfirst;refine(HLE.out _ hf0).mono ?_;rintro e w1 ⟨rfl,hf1⟩)
       |(go_at_call 294;refine HL1.out.mono ?_;rintro e w0 ⟨rfl,hf0⟩;have hfirst:=hf0)
       |(go_at_call 297;refine(HSW.out _ (hf0.then0 hf1)).mono ?_;rintro e w2 ⟨⟨u,rfl⟩,hr2,hf2⟩))
      go_roundw
      case rel=>exact⟨2 * i+2,swapR H' i (2 * i+2),by go_num,.inr hjn,by have:=HL2.out;omega,hr2,HPE.out,HST.out,HRS.out,(HF.out.trans (hf0.then0 hf1) fun _ h=>h.elim).trans hf2 fun _ h=>.inl h⟩
      case measure=>simp [intOf];omega
     ·have hle:=fun W (hW:Fr N0 wr W)=>qless_at (hbq.fr0 hW) (hrow.fr hW fun _ _=>id) hok' (2 * i+2) i hjl hil false (by simpa using hlt)
      have hend:=down_done hdn.out (fun c h1 h2=>by have:=hmin c h1 h2;omega)
      rw[show((2 * i+2:Nat):Int)=2 * (i:Int)+1+1 by omega] at hle
      have HLE:=hhd hle;have HE:=hhd hend;have HR:=hhd hrow;have HF:=hhd hfr
      have HL1:=hhd (less1 true (by simpa using h12) h2)
      clear hbq hok' hle hend hrow hfr hdn hlt hmin less1
      go_wp2_with (first
       |(go_at_call 294;have hq:=hfirst;refine(HLE.out _ hf0).mono ?_;rintro e w1 ⟨rfl,hf1⟩)
       |(go_at_call 294;refine HL1.out.mono ?_;rintro e w0 ⟨rfl,hf0⟩;have hfirst:=hf0))
      go_ret
      exact⟨⟨_,rfl⟩,H',HR.out.fr (hf0.then0 hf1) (fun _ _=>id),hp.out,HE.out,hrest.out,HF.out.trans (hf0.then0 hf1) fun _ h=>h.elim⟩
    ·have hmin:∀ c,c < n→(c=2 * i+1∨c=2 * i+2)→keyAt down H' (2 * i+1)≤keyAt down H' c:=fun c h1 h2=>by
      rcases h2 with rfl | rfl <;> omega
     have hjn:2 * i+1 < n:=by omega
     have hjl:2 * i+1 < H'.length:=by omega
     by_cases hlt:keyAt down H' (2 * i+1) < keyAt down H' i
     ·have hle:=fun W (hW:Fr N0 wr W)=>qless_at (hbq.fr0 hW) (hrow.fr hW fun _ _=>id) hok' (2 * i+1) i hjl hil true (by simpa using hlt)
      have hsw:=fun W (hW:Fr N0 wr W)=>qswap_any W hb base v down H' (hbq.fr0 hW) (hrow.fr hW fun _ _=>id) i (2 * i+1) hil hjl
      have hst:=down_step hdn.out (j:=2 * i+1) (by omega) hjn hmin hlt
      rw[← swapR_key hil hjl] at hst
      have hlen2:=swapR_length hil hjl
      have hper:=(swapR_perm hil hjl).trans hp.out
      have hres:∀ x,n≤x→(swapR H' i (2 * i+1))[x]?=H[x]?:=fun x hx=>by
       rw[swapR_get hil hjl,if_neg (by omega),if_neg (by omega)];exact hrest.out x hx
      rw[show((2 * i+1:Nat):Int)=2 * (i:Int)+1 by omega] at hle hsw
      have HLE:=hhd hle;have HSW:=hhd hsw;have HST:=hhd hst;have HPE:=hhd hper;have HF:=hhd hfr;have HL2:=hhd hlen2;have HRS:=hhd hres
      have HL1:=hhd (less1 false (by simpa using h12) h2)
      clear hbq hok' hle hsw hst hper hrow hdn hlt hp hfr hlen2 hres hmin less1
      go_wp2_with (first
       |(go_at_call 294;have hq:=hfirst;refine(HLE.out _ hf0).mono ?_;rintro e w1 ⟨rfl,hf1⟩)
       |(go_at_call 294;refine HL1.out.mono ?_;rintro e w0 ⟨rfl,hf0⟩;have hfirst:=hf0)
       |(go_at_call 297;refine(HSW.out _ (hf0.then0 hf1)).mono ?_;rintro e w2 ⟨⟨u,rfl⟩,hr2,hf2⟩))
      go_roundw
      case rel=>exact⟨2 * i+1,swapR H' i (2 * i+1),by go_num,.inr hjn,by have:=HL2.out;omega,hr2,HPE.out,HST.out,HRS.out,(HF.out.trans (hf0.then0 hf1) fun _ h=>h.elim).trans hf2 fun _ h=>.inl h⟩
      case measure=>simp [intOf];omega
     ·have hle:=fun W (hW:Fr N0 wr W)=>qless_at (hbq.fr0 hW) (hrow.fr hW fun _ _=>id) hok' (2 * i+1) i hjl hil false (by simpa using hlt)
      have hend:=down_done hdn.out (fun c h1 h2=>by have:=hmin c h1 h2;omega)
      rw[show((2 * i+1:Nat):Int)=2 * (i:Int)+1 by omega] at hle
      have HLE:=hhd hle;have HE:=hhd hend;have HR:=hhd hrow;have HF:=hhd hfr
      have HL1:=hhd (less1 false (by simpa using h12) h2)
      clear hbq hok' hle hend hrow hfr hdn hlt hmin less1
      go_wp2_with (first
       |(go_at_call 294;have hq:=hfirst;refine(HLE.out _ hf0).mono ?_;rintro e w1 ⟨rfl,hf1⟩)
       |(go_at_call 294;refine HL1.out.mono ?_;rintro e w0 ⟨rfl,hf0⟩;have hfirst:=hf0))
      go_ret
      exact⟨⟨_,rfl⟩,H',HR.out.fr (hf0.then0 hf1) (fun _ _=>id),hp.out,HE.out,hrest.out,HF.out.trans (hf0.then0 hf1) fun _ h=>h.elim⟩
   ·have g2:¬ 2 * (i:Int)+1+1 < (n:Int):=by omega
    have hmin:∀ c,c < n→(c=2 * i+1∨c=2 * i+2)→keyAt down H' (2 * i+1)≤keyAt down H' c:=fun c h1 h2=>by
     rcases h2 with rfl | rfl <;> omega
    have hjn:2 * i+1 < n:=by omega
    have hjl:2 * i+1 < H'.length:=by omega
    by_cases hlt:keyAt down H' (2 * i+1) < keyAt down H' i
    ·have hle:=fun W (hW:Fr N0 wr W)=>qless_at (hbq.fr0 hW) (hrow.fr hW fun _ _=>id) hok' (2 * i+1) i hjl hil true (by simpa using hlt)
     have hsw:=fun W (hW:Fr N0 wr W)=>qswap_any W hb base v down H' (hbq.fr0 hW) (hrow.fr hW fun _ _=>id) i (2 * i+1) hil hjl
     have hst:=down_step hdn.out (j:=2 * i+1) (by omega) hjn hmin hlt
     rw[← swapR_key hil hjl] at hst
     have hlen2:=swapR_length hil hjl
     have hper:=(swapR_perm hil hjl).trans hp.out
     have hres:∀ x,n≤x→(swapR H' i (2 * i+1))[x]?=H[x]?:=fun x hx=>by
      rw[swapR_get hil hjl,if_neg (by omega),if_neg (by omega)];exact hrest.out x hx
     rw[show((2 * i+1:Nat):Int)=2 * (i:Int)+1 by omega] at hle hsw
     have HLE:=hhd hle;have HSW:=hhd hsw;have HST:=hhd hst;have HPE:=hhd hper;have HF:=hhd hfr;have HL2:=hhd hlen2;have HRS:=hhd hres
     clear hbq hok' hle hsw hst hper hrow hdn hlt hp hfr hlen2 hres hmin less1
     go_wp2_with (first
      |(go_at_call 294;refine(HLE.out _ (Fr.refl N0 wr)).mono ?_;rintro e w1 ⟨rfl,hf1⟩)
      |(go_at_call 297;refine(HSW.out _ hf1).mono ?_;rintro e w2 ⟨⟨u,rfl⟩,hr2,hf2⟩))
     go_roundw
     case rel=>exact⟨2 * i+1,swapR H' i (2 * i+1),by go_num,.inr hjn,by have:=HL2.out;omega,hr2,HPE.out,HST.out,HRS.out,(HF.out.trans hf1 fun _ h=>h.elim).trans hf2 fun _ h=>.inl h⟩
     case measure=>simp [intOf];omega
    ·have hle:=fun W (hW:Fr N0 wr W)=>qless_at (hbq.fr0 hW) (hrow.fr hW fun _ _=>id) hok' (2 * i+1) i hjl hil false (by simpa using hlt)
     have hend:=down_done hdn.out (fun c h1 h2=>by have:=hmin c h1 h2;omega)
     rw[show((2 * i+1:Nat):Int)=2 * (i:Int)+1 by omega] at hle
     have HLE:=hhd hle;have HE:=hhd hend;have HR:=hhd hrow;have HF:=hhd hfr
     clear hbq hok' hle hend hrow hfr hdn hlt hmin less1
     go_wp2_with (first
      |(go_at_call 294;refine(HLE.out _ (Fr.refl N0 wr)).mono ?_;rintro e w1 ⟨rfl,hf1⟩))
     go_ret
     exact⟨⟨_,rfl⟩,H',HR.out.fr hf1 (fun _ _=>id),hp.out,HE.out,hrest.out,HF.out.trans hf1 fun _ h=>h.elim⟩
  ·have g1:(n:Int)≤2 * (i:Int)+1:=by omega
   have hend:=down_done hdn.out (fun c h1 h2=>absurd h1 (by omega))
   have HE:=hhd hend;have HR:=hhd hrow;have HF:=hhd hfr
   clear hend hrow hfr hdn
   go_wp2
   go_ret
   exact⟨⟨_,rfl⟩,H',HR.out,hp.out,HE.out,hrest.out,HF.out⟩
structure HpAt(W:World)(base hb:Nat)(v:Value)(down:Bool)(H:List Rk):Prop where
 row:RkRow W base v H
 box:QBox W hb v down
 ord:IsHp (keyAt down H) H.length
 ok:∀ r ∈ H,r.Ok
theorem HpAt.fr{W W':World}{base hb:Nat}{v:Value}{down:Bool}{H:List Rk}(h:HpAt W base hb v down H)(hf:Fr N0 W W'):HpAt W' base hb v down H:=⟨h.row.fr hf fun _ _=>id,h.box.fr0 hf,h.ord,h.ok⟩
theorem qlen_at{W:World}{base hb:Nat}{v:Value}{down:Bool}{H:List Rk}(hb':QBox W hb v down)(h:RkRow W base v H):Calls Tryz.prog 87 #[.pointer (some ⟨hb,0,none⟩)] W fun e w'=>e = .returned (.int .i64 H.length)∧Fr N0 W w':=by
 obtain⟨a,cap,rfl⟩:=h.vform
 exact qlen_any hb a H.length cap down W hb'
theorem heapPush_any(w:World)(base hb:Nat)(v:Value)(down:Bool)(H:List Rk)(h:HpAt w base hb v down H)(hbase:base≤w.heap.size)(hl:H.length < 10000000000)(p:Rk)(hp:p.Ok) :
  Calls Tryz.prog 86 #[.iface 158 (.pointer (some ⟨hb,0,none⟩)),.iface 164 (.agg #[.int .u64 p.uid,.int .i64 p.n,.bool p.some])] w fun e w'=>(∃ u,e = .returned u)∧∃ v' H',HpAt w' base hb v' down H'∧Hid (H'.Perm (H ++ [p])) ∧
   (∀ q,v'.ownBlock=some q→v.ownBlock=some q∨w.heap.size≤q)∧Fr (fun q=>q=hb∨v.ownBlock=some q) w w':=by
 have hok2:∀ r ∈ H ++ [p],r.Ok:=fun r hr=>by
  rcases List.mem_append.1 hr with h1 | h1
  ·exact h.ok r h1
  ·simp at h1;rw[h1];exact hp
 have hpu:=qpush_any w base hb v down H h.row h.box hbase (by omega) p
 have hup:=fun W v' (hr:RkRow W base v' (H ++ [p])) (hbx:QBox W hb v' down)=>up_any W base hb v' down (H ++ [p]) hok2 hr hbx (by simp;omega) H.length (by simp) (up_of_app h.ord)
 have hs:IntKind.i64.wrap (((H ++ [p]).length:Int) - 1)=(H.length:Int):=by rw[IntWalk.i64_in _ (by simp;omega)];simp
 obtain⟨n,hn⟩:∃ n,H.length=n:=⟨_,rfl⟩
 obtain⟨m,hm⟩:∃ m,(H ++ [p]).length=m:=⟨_,rfl⟩
 have HM:=hhd hm
 rw[hn] at hup hs
 rw[hm] at hs
 have HP:=hhd hpu;have HU:=hhd hup;have HO2:=hhd hok2
 clear hpu hup h hok2 hm hn
 have hml:=qm_less hb;have hms:=qm_swap hb;have hmn:=qm_len hb;have hmp:=qm_push hb;have hmo:=qm_pop hb
 go_enter Tryz.func86,Tryz.ntmps86
 go_wp2_with (first
  |(go_at_call 296;refine HP.out.mono ?_;rintro e w1 ⟨⟨u,rfl⟩,v',hr1,hb1,hn1,hf1⟩)
  |(go_at_call 87;refine(qlen_at hb1 hr1).mono ?_;rintro e w2 ⟨rfl,hf2⟩;rw[HM.out])
  |(go_at_call 142;refine(HU.out w2 v' (hr1.fr hf2 fun _ _=>id) (hb1.fr0 hf2)).mono ?_;rintro e w3 ⟨⟨u3,rfl⟩,H3,hr3,hp3,ho3,hf3⟩))
 go_end0
 refine⟨⟨_,rfl⟩,v',H3,⟨hr3,QBox.fr (hb1.fr0 hf2) (hr1.fr hf2 fun _ _=>id) hf3,ho3,fun r hr=>HO2.out r (hp3.mem_iff.1 hr)⟩,hp3,hn1,(hf1.then0 hf2).trans hf3 fun k hk=>?_⟩
 rcases hn1 k hk with h1 | h1
 ·exact .inl (.inr h1)
 ·exact .inr h1
theorem heapPop_any(w:World)(base hb:Nat)(v:Value)(down:Bool)(H:List Rk)(h:HpAt w base hb v down H)(h0:0 < H.length)(hl:H.length≤10000000000) :
  Calls Tryz.prog 88 #[.iface 158 (.pointer (some ⟨hb,0,none⟩))] w fun e w'=>e = .returned (.iface 164 (.agg #[.int .u64 H[0].uid,.int .i64 H[0].n,.bool H[0].some]))∧∃ v' H',HpAt w' base hb v' down H'∧Hid ((H' ++ [H[0]]).Perm H)∧v'.ownBlock=v.ownBlock∧Fr (fun q=>q=hb∨v.ownBlock=some q) w w':=by
 obtain⟨n,hn⟩:∃ n,n+1=H.length:=⟨H.length - 1,by omega⟩
 have hln:=qlen_at h.box h.row
 have hsw:=fun W (hW:Fr N0 w W)=>qswap_any W hb base v down H (h.box.fr0 hW) (h.row.fr hW fun _ _=>id) 0 n h0 (by omega)
 have hsl:=swapR_length (H:=H) (i:=0) (k:=n) h0 (by omega)
 have hsp:=swapR_perm (H:=H) (i:=0) (k:=n) h0 (by omega)
 have hoks:∀ r ∈ swapR H 0 n,r.Ok:=fun r hr=>h.ok r (hsp.mem_iff.1 hr)
 have hlast:(swapR H 0 n)[n]?=some H[0]:=by
  rw[swapR_get h0 (by omega)]
  by_cases e:n=0
  ·subst e;rw[if_pos rfl,List.getElem?_eq_getElem]
  ·rw[if_neg e,if_pos rfl,List.getElem?_eq_getElem]
 have hdn:=fun W (hr:RkRow W base v (swapR H 0 n)) (hb':QBox W hb v down)=>down_any W base hb v down (swapR H 0 n) hoks hr hb' (by omega) n (by omega) (down_of_hpR h.ord hn)
 have hpo:=fun W H' (hr:RkRow W base v H') (hb':QBox W hb v down) (hlen:H'.length=H.length)=>qpop_any W base hb v down H' hr hb' (by omega) (by omega)
 have hbf:=fun W (hW:Fr (fun q=>v.ownBlock=some q) w W)=>QBox.fr h.box h.row hW
 have hok:=h.ok
 have e0:((0:Nat):Int)=0:=rfl
 simp only [e0] at hsw
 rw[← hn] at hln
 have hs:IntKind.i64.wrap (((n+1:Nat):Int) - 1)=(n:Int):=by rw[IntWalk.i64_in _ (by omega)];omega
 have hs2:IntKind.i64.wrap (n:Int)=(n:Int):=IntWalk.i64_in _ (by omega)
 obtain⟨top,htop⟩:∃ x,H[0]=x:=⟨_,rfl⟩
 rw[htop] at hlast ⊢
 have HLN:=hhd hln;have HSW:=hhd hsw;have HD:=hhd hdn;have HPO:=hhd hpo;have HBF:=hhd hbf;have HSP:=hhd hsp;have HLA:=hhd hlast;have HSL:=hhd hsl;have HOK:=hhd hok
 have HN:=hhd hn
 clear hln hsw hdn hpo hbf h hsp hlast hsl hn hok hoks htop
 have hml:=qm_less hb;have hms:=qm_swap hb;have hmn:=qm_len hb;have hmp:=qm_push hb;have hmo:=qm_pop hb
 go_enter Tryz.func88,Tryz.ntmps88
 go_wp2_with (first
  |(go_at_call 87;refine HLN.out.mono ?_;rintro e w0 ⟨rfl,hf0⟩)
  |(go_at_call 297;refine(HSW.out w0 hf0).mono ?_;rintro e w1 ⟨⟨u1,rfl⟩,hr1,hf01⟩;have hf1:=(hf0.mono (T':=fun q=>v.ownBlock=some q) fun _ h=>h.elim).trans hf01 (fun k hk=>.inl hk))
  |(go_at_call 143;refine(HD.out w1 hr1 (HBF.out w1 hf1)).mono ?_;rintro e w3 ⟨⟨b3,rfl⟩,H3,hr3,hp3,ho3,hx3,hf3⟩;have hf13:=hf1.trans hf3 (fun k hk=>.inl hk))
  |(go_at_call 295;refine(HPO.out w3 H3 hr3 (HBF.out w3 hf13) (by rw[hp3.length_eq];exact HSL.out)).mono ?_;rintro e w4 ⟨⟨r4,hr40,rfl⟩,v4,hr4,hb4,ho4,hf4⟩))
 go_ret
 have hlen3:H3.length=H.length:=hp3.length_eq.trans HSL.out
 have hn:=HN.out
 have e3:H3.length - 1=n:=by omega
 rw[e3] at hr4 hr40
 have hx:H3[n]?=some top:=by rw[hx3 n (Nat.le_refl _)];exact HLA.out
 obtain rfl:r4=top:=by rw[hx] at hr40;exact(Option.some.inj hr40).symm
 have hcat:H3.take n ++ [r4]=H3:=by
  have h1:n < H3.length:=by omega
  have h2:H3[n]=r4:=by rw[List.getElem?_eq_getElem h1] at hx;simpa using hx
  have h3:H3.drop n = [r4]:=by
   rw[List.drop_eq_getElem_cons h1,h2,List.drop_of_length_le (by omega)]
  rw[← h3,List.take_append_drop]
 have hlt:(H3.take n).length=n:=by simp;omega
 have hperm:=hp3.trans HSP.out
 refine⟨rfl,v4,H3.take n,⟨hr4,hb4,?_,fun r hr=>HOK.out r (hperm.mem_iff.1 (List.mem_of_mem_take hr))⟩,?_,ho4,?_⟩
 ·rw[hlt]
  intro i h0 hi
  rw[keyAt_take hi,keyAt_take (by omega)]
  exact ho3 i h0 hi
 ·show(H3.take n ++ [r4]).Perm H
  rw[hcat];exact hperm
 ·exact(hf13.mono fun k hk=>.inl (.inr hk)).trans hf4 fun k hk=>.inl (.inl hk)
end Go.Proofs.YtefepfiijoafbaaGreat
