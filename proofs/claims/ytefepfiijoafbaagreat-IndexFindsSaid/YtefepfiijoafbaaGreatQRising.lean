/- Shelf VBytes App Sorted Preds Rising -/
import Derived.Shelf.Small.Bits
import Derived.Shelf.Small.Wraps
import Derived.Shelf.Strconv.Itoa0
import Derived.Shelf.Sort.Plain
import Derived.Shelf.Slices.Turned
import Derived.Shelf.Slices.CompactS
import Derived.Ground.Names2Prog
import Derived.Shelf.Slices.SearchI
import Derived.Shelf.Slices.Cells
import Derived.Shelf.Slices.In.SortNone
import Derived.Ground.SlgnProg
import Derived.Shelf.SlicesG.SearchI
import Derived.Shelf.SlicesE.Reverse
import Derived.Shelf.SlicesE.Clone
import Derived.Test.YtefepfiijoafbaaGreatChecked
import Derived.Laws.AppendOwnNone
import Derived.Maps.RangeWalk
import Derived.Maps.OwnSet
import Derived.Sort.KeysCollected
import Derived.Sort.OwnSorted
import Derived.StringKeys
import Derived.Sort.Walk0
import Derived.Laws.Cover1
import Derived.Test.YtefepfiijoafbaaGreatQBS
import Derived.Test.YtefepfiijoafbaaGreatQValO
import Derived.Test.YtefepfiijoafbaaGreatQDelW
set_option linter.unusedVariables false
set_option linter.unusedSimpArgs false
set_option maxRecDepth 100000
set_option maxHeartbeats 4000000
namespace Go.Proofs
open Go.Shelf
def Tryz.lays190_ren:Go.Shelf.Ren:=⟨fun | 190=>129 | 125=>141 | 258=>191 | 128=>203 | 129=>204 | 302=>227 | 303=>228 | 304=>229 | 305=>230 | 306=>231 | 307=>232 | 308=>233 | 309=>234 | 310=>235 | 333=>256 | 329=>238 | 330=>239 | 334=>257 | 335=>258 | 336=>259 | 344=>265 | n=>n,fun | 31=>92 | 9=>9 | 3=>3 | 46=>207 | 0=>0 | 51=>263 | 53=>33 | 4=>4 | 183=>257 | 182=>256 | 131=>146 | 5=>5 | 218=>289 | 222=>292 | 228=>306 | 229=>109 | n=>n,fun | n=>n⟩
theorem Tryz.lays190:Go.Proofs.Lays.n190 Tryz.prog Tryz.lays190_ren:={
 mixed:=by kernel_rfl
 f125:=Tryz.func141.trans (congrArg some (by kernel_rfl))
 f128:=Tryz.func203.trans (congrArg some (by kernel_rfl))
 f129:=Tryz.func204.trans (congrArg some (by kernel_rfl))
 f190:=Tryz.func129.trans (congrArg some (by kernel_rfl))
 f258:=Tryz.func191.trans (congrArg some (by kernel_rfl))
 f302:=Tryz.func227.trans (congrArg some (by kernel_rfl))
 f303:=Tryz.func228.trans (congrArg some (by kernel_rfl))
 f304:=Tryz.func229.trans (congrArg some (by kernel_rfl))
 f305:=Tryz.func230.trans (congrArg some (by kernel_rfl))
 f306:=Tryz.func231.trans (congrArg some (by kernel_rfl))
 f307:=Tryz.func232.trans (congrArg some (by kernel_rfl))
 f308:=Tryz.func233.trans (congrArg some (by kernel_rfl))
 f309:=Tryz.func234.trans (congrArg some (by kernel_rfl))
 f310:=Tryz.func235.trans (congrArg some (by kernel_rfl))
 f329:=Tryz.func238.trans (congrArg some (by kernel_rfl))
 f330:=Tryz.func239.trans (congrArg some (by kernel_rfl))
 f333:=Tryz.func256.trans (congrArg some (by kernel_rfl))
 f334:=Tryz.func257.trans (congrArg some (by kernel_rfl))
 f335:=Tryz.func258.trans (congrArg some (by kernel_rfl))
 f336:=Tryz.func259.trans (congrArg some (by kernel_rfl))
 f344:=Tryz.func265.trans (congrArg some (by kernel_rfl))
 t0:=Tryz.underlying0
 a0:=Tryz.isAgg0
 z0:=Tryz.sizeOf0
 v0:=Tryz.zeroValue0
 t3:=Tryz.underlying3
 a3:=Tryz.isAgg3
 z3:=Tryz.sizeOf3
 v3:=Tryz.zeroValue3
 t4:=Tryz.underlying4
 a4:=Tryz.isAgg4
 z4:=Tryz.sizeOf4
 v4:=Tryz.zeroValue4
 t5:=Tryz.underlying5
 a5:=Tryz.isAgg5
 z5:=Tryz.sizeOf5
 v5:=Tryz.zeroValue5
 t9:=Tryz.underlying9
 a9:=Tryz.isAgg9
 z9:=Tryz.sizeOf9
 v9:=Tryz.zeroValue9
 t31:=Tryz.underlying92
 a31:=Tryz.isAgg92
 z31:=Tryz.sizeOf92
 v31:=Tryz.zeroValue92
 t46:=Tryz.underlying207
 a46:=Tryz.isAgg207
 z46:=Tryz.sizeOf207
 v46:=Tryz.zeroValue207
 t51:=Tryz.underlying263
 a51:=Tryz.isAgg263
 z51:=Tryz.sizeOf263
 v51:=Tryz.zeroValue263
 t53:=Tryz.underlying33
 a53:=Tryz.isAgg33
 z53:=Tryz.sizeOf33
 v53:=Tryz.zeroValue33
 t131:=Tryz.underlying146
 a131:=Tryz.isAgg146
 z131:=Tryz.sizeOf146
 v131:=Tryz.zeroValue146
 t182:=Tryz.underlying256
 a182:=Tryz.isAgg256
 z182:=Tryz.sizeOf256
 v182:=Tryz.zeroValue256
 t183:=Tryz.underlying257
 a183:=Tryz.isAgg257
 z183:=Tryz.sizeOf257
 v183:=Tryz.zeroValue257
 t218:=Tryz.underlying289
 a218:=Tryz.isAgg289
 z218:=Tryz.sizeOf289
 v218:=Tryz.zeroValue289
 t222:=Tryz.underlying292
 a222:=Tryz.isAgg292
 z222:=Tryz.sizeOf292
 v222:=Tryz.zeroValue292
 t228:=Tryz.underlying306
 a228:=Tryz.isAgg306
 z228:=Tryz.sizeOf306
 v228:=Tryz.zeroValue306
 t229:=Tryz.underlying109
 a229:=Tryz.isAgg109
 z229:=Tryz.sizeOf109
 v229:=Tryz.zeroValue109 }
open Go.Sort Go.RowKit in
theorem Tryz.slices_Sort_string(blk off cap:Nat)(ss:List (List UInt8))(w:World)(hH:Holds encStr w blk off ss.toArray)(hblk:blk < w.heap.size)(hsz:ss.length < 4611686018427387904) :
  Calls Tryz.prog 129 #[.slice (some ⟨blk,off,none⟩) ss.length cap] w fun e w'=>
   e = .returned (.tuple #[])∧∃ n os,w'=grow (putRow encStr (Sort.ahead w n) blk off (ss.mergeSort fun x y=>decide (x≤y)).toArray) os:=Any.slices_Sort_string Tryz.lays190 blk off cap ss w hH hblk hsz
def Tryz.lays110_ren:Go.Shelf.Ren:=⟨fun | 110=>218 | 109=>252 | n=>n,fun | 31=>92 | 9=>9 | 4=>4 | 3=>3 | 0=>0 | n=>n,fun | n=>n⟩
theorem Tryz.lays110:Go.Proofs.Lays.n110 Tryz.prog Tryz.lays110_ren:={
 mixed:=by kernel_rfl
 f109:=Tryz.func252.trans (congrArg some (by kernel_rfl))
 f110:=Tryz.func218.trans (congrArg some (by kernel_rfl))
 t0:=Tryz.underlying0
 a0:=Tryz.isAgg0
 z0:=Tryz.sizeOf0
 v0:=Tryz.zeroValue0
 t3:=Tryz.underlying3
 a3:=Tryz.isAgg3
 z3:=Tryz.sizeOf3
 v3:=Tryz.zeroValue3
 t4:=Tryz.underlying4
 a4:=Tryz.isAgg4
 z4:=Tryz.sizeOf4
 v4:=Tryz.zeroValue4
 t9:=Tryz.underlying9
 a9:=Tryz.isAgg9
 z9:=Tryz.sizeOf9
 v9:=Tryz.zeroValue9
 t31:=Tryz.underlying92
 a31:=Tryz.isAgg92
 z31:=Tryz.sizeOf92
 v31:=Tryz.zeroValue92 }
open Go.Lib in
theorem Tryz.slices_Contains_string(b off n c:Nat)(zs:List ByteArray)(x:ByteArray)(w:World)(hz:n≤zs.length)(hbig:n≤9223372036854775807)(hc:∀ j,j < zs.length→w.cell? ⟨b,off+j,none⟩=some (.string (zs.getD j ByteArray.empty))) :
  Calls Tryz.prog 218 #[.slice (some ⟨b,off,none⟩) n c,.string x] w fun e w'=>e = .returned (.bool (Lib.containsS (zs.take n) x))∧w'=w:=Any.slices_Contains_string Tryz.lays110 b off n c zs x w hz hbig hc
open Go.Lib in
theorem Tryz.slices_Contains_string_empty(a:Option Addr)(c:Nat)(x:ByteArray)(w:World) :
  Calls Tryz.prog 218 #[.slice a 0 c,.string x] w fun e w'=>e = .returned (.bool false)∧w'=w:=Any.slices_Contains_string_empty Tryz.lays110 a c x w
def Tryz.lays194_ren:Go.Shelf.Ren:=⟨fun | 194=>251 | n=>n,fun | 31=>92 | 9=>9 | 3=>3 | 4=>4 | 0=>0 | n=>n,fun | n=>n⟩
theorem Tryz.lays194:Go.Proofs.Lays.n194 Tryz.prog Tryz.lays194_ren:={
 mixed:=by kernel_rfl
 f194:=Tryz.func251.trans (congrArg some (by kernel_rfl))
 t0:=Tryz.underlying0
 a0:=Tryz.isAgg0
 z0:=Tryz.sizeOf0
 v0:=Tryz.zeroValue0
 t3:=Tryz.underlying3
 a3:=Tryz.isAgg3
 z3:=Tryz.sizeOf3
 v3:=Tryz.zeroValue3
 t4:=Tryz.underlying4
 a4:=Tryz.isAgg4
 z4:=Tryz.sizeOf4
 v4:=Tryz.zeroValue4
 t9:=Tryz.underlying9
 a9:=Tryz.isAgg9
 z9:=Tryz.sizeOf9
 v9:=Tryz.zeroValue9
 t31:=Tryz.underlying92
 a31:=Tryz.isAgg92
 z31:=Tryz.sizeOf92
 v31:=Tryz.zeroValue92 }
open Go.RowKit Go.Lib Go.Sort in
theorem Tryz.slices_Compact_string(blk off cap:Nat)(zs:List (List UInt8))(w:World)(hH:Holds encStr w blk off zs.toArray)(hsz:zs.length≤9223372036854775807)(hcap:zs.length≤cap) :
  Calls Tryz.prog 251 #[.slice (some ⟨blk,off,none⟩) zs.length cap] w fun e w'=>e = .returned (.slice (some ⟨blk,off,none⟩) (Lib.compact zs).length cap)∧∃ q,w'=putRow encStr (Sort.ahead w q) blk off (Lib.compact zs ++ List.replicate (zs.length - (Lib.compact zs).length) []).toArray:=Any.slices_Compact_string Tryz.lays194 blk off cap zs w hH hsz hcap
open Go.RowKit Go.Lib Go.Sort in
theorem Tryz.slices_Compact_string_empty(a:Option Addr)(cap:Nat)(w:World) :
  Calls Tryz.prog 251 #[.slice a 0 cap] w fun e w'=>e = .returned (.slice a 0 cap)∧w'=w:=Any.slices_Compact_string_empty Tryz.lays194 a cap w
open Go.RowKit Go.Sort in
theorem Tryz.slices_Sort_string_none(p:Option Addr)(cap:Nat)(w:World) :
  Calls Tryz.prog 129 #[.slice p 0 cap] w fun e w'=>e = .returned (.tuple #[])∧w'=w:=Any.slices_Sort_string_none Tryz.lays190 p cap w
end Go.Proofs
namespace Go.Proofs.YtefepfiijoafbaaGreat
section
open Go.RowKit Go.Shelf

end
section
open Go.RowKit Go.Shelf Go.Maps Go.Sort
theorem news_of_rows{α:Type}{enc:α→List Value}{k:Nat}(hn:∀ x,(enc x).length=k)(hk:0 < k){w:World}{b o:Nat}{ys:List α}(h:∀ i (h:i < ys.length),∀ c,c < k→w.cell? ⟨b,o+i * k+c,none⟩=(enc ys[i])[c]?) :
  ∀ j u,(ys.flatMap enc)[j]?=some u→w.cell? ((⟨b,o,none⟩:Addr).add j)=some u:=fun j u hu=>by
 have hadd:(⟨b,o,none⟩:Addr).add j=⟨b,o+j,none⟩:=by unfold Addr.add;split <;> simp_all
 have hj:j < (ys.flatMap enc).length:=(List.getElem?_eq_some_iff.1 hu).1
 rw[flat_length hn] at hj
 have hi:j / k < ys.length:=(Nat.div_lt_iff_lt_mul hk).2 hj
 have hc:j % k < k:=Nat.mod_lt _ hk
 have hje:j / k * k+j % k=j:=by rw[Nat.mul_comm];exact Nat.div_add_mod j k
 have h2:=flat_get hn ys (j / k) hi (j % k) hc
 rw[hje] at h2
 rw[hadd,← hu,h2,← h (j / k) hi (j % k) hc,Nat.add_assoc,hje]
theorem run_append_rows{w:World}(t ty:TypeId)(base:Nat)(e:TypeId)(i:TypeInfo)(z:Value)(size bytes:Nat)(ht:Tryz.prog.underlying t=some (.slice e))(hi:Tryz.prog.info? e=some i)(hz:i.zero=some z)
  (hsize:i.size=size) (hby:i.bytes=bytes) (hzs:z.cells.size=size) (hsz:0 < size)
  (v:Value) (n:Nat) (xs:List Value) (hown:w.ownsRow base e size v n xs) {α:Type} {enc:α→List Value} (hn:∀ x,(enc x).length=size) (h1:∀ y,∀ u ∈ enc y,u.oneCell'=true)
  (b:Nat) (vs:Value) (ys:List α) (hys:RowsK enc size w b vs ys) (h63:n+ys.length≤maxLen) (hbytes:(n+ys.length) * bytes≤140737488355328) (hbase:base≤w.heap.size) :
  ∃ v' w',(Builtin.append_ #[t,t] ty #[v,vs]).run Tryz.prog w = .ok v' w'∧w'.ownsRow base e size v' (n+ys.length) (xs ++ ys.flatMap enc)∧w.grownBy w' v.ownBlock:=by
 obtain⟨a,off,cap,rfl,g1,g2,g3,g4,g5⟩:=hys
 cases a with
 | none=>
  have hc:=g4 rfl
  subst hc
  obtain rfl:ys = []:=List.eq_nil_of_length_eq_zero (by omega)
  have hrun:=run_append_owned_none (P:=Tryz.prog) (w:=w) base t ty e i size ht hi v n xs hown
  exact⟨v,w,hrun,by simpa using hown,World.grownBy.refl _ _⟩
 | some a=>
  have hnews:∀ j u,(ys.flatMap enc)[j]?=some u→w.cell? (a.add j)=some u:=by
   by_cases h0:0 < ys.length
   ·have:=g3 h0
    simp only [Option.some.injEq] at this
    subst this
    exact news_of_rows hn hsz g5
   ·obtain rfl:ys = []:=List.eq_nil_of_length_eq_zero (by omega)
    intro j u hu;simp at hu
  obtain⟨v',w',hr,h2,h3,_,_⟩:=run_append_own_at (P:=Tryz.prog) w base t ty e i z size bytes ht hi hz hsize hby hzs hsz v n xs hown a ys.length cap (ys.flatMap enc) (flat_length hn _) hnews (fun u hu=>by
   obtain⟨y,_,hy⟩:=List.mem_flatMap.1 hu
   exact h1 y u hy) h63 hbytes hbase
  exact⟨v',w',hr,h2,h3⟩
theorem wp_append_rows{w:World}{o:Oper}{a:Act}{K:Act→World→Prop}{Q:Exit→Act→World→Prop}(s x:Operand)(t:TypeId)(ho:o.op = .call { callee:=.builtin .append,args:=#[s,x],argTypes:=#[t,t] })
  (base:Nat) (e:TypeId) (i:TypeInfo) (z:Value) (size bytes:Nat) (ht:Tryz.prog.underlying t=some (.slice e)) (hi:Tryz.prog.info? e=some i) (hz:i.zero=some z)
  (hsize:i.size=size) (hby:i.bytes=bytes) (hzs:z.cells.size=size) (hsz:0 < size)
  (v:Value) (n:Nat) (xs:List Value) (hs:a.eval s=v) (hown:w.ownsRow base e size v n xs) {α:Type} {enc:α→List Value} (hn:∀ x,(enc x).length=size) (h1:∀ y,∀ u ∈ enc y,u.oneCell'=true)
  (b:Nat) (vs:Value) (ys:List α) (hx:a.eval x=vs) (hys:RowsK enc size w b vs ys) (h63:n+ys.length≤maxLen) (hbytes:(n+ys.length) * bytes≤140737488355328) (hbase:base≤w.heap.size)
  (h:∀ v' w',w'.ownsRow base e size v' (n+ys.length) (xs ++ ys.flatMap enc)→w.grownBy w' v.ownBlock→K (a.put o.dst v') w'):o.wp Tryz.prog a w K Q:=by
 obtain⟨v',w',hr,h2,h3⟩:=run_append_rows (w:=w) t o.type base e i z size bytes ht hi hz hsize hby hzs hsz v n xs hown hn h1 b vs ys hys h63 hbytes hbase
 unfold Oper.wp execOp
 simp only [ho,resolve,invoke,builtin,Sem.run_bind,Sem.run_pure,Result.andThen_ok,List.map_toArray,List.map_cons,List.map_nil,hs,hx,hr]
 exact h v' w' h2 h3
theorem wpList_append_rows{w:World}{ops:Array Oper}{rest:List Oper}{o:Oper}{a:Act}{Q:Exit→Act→World→Prop}(hgd:o.guard=none)(s x:Operand)(t:TypeId)(ho:o.op = .call { callee:=.builtin .append,args:=#[s,x],argTypes:=#[t,t] })
  (base:Nat) (e:TypeId) (i:TypeInfo) (z:Value) (size bytes:Nat) (ht:Tryz.prog.underlying t=some (.slice e)) (hi:Tryz.prog.info? e=some i) (hz:i.zero=some z)
  (hsize:i.size=size) (hby:i.bytes=bytes) (hzs:z.cells.size=size) (hsz:0 < size)
  (v:Value) (n:Nat) (xs:List Value) (hs:a.eval s=v) (hown:w.ownsRow base e size v n xs) {α:Type} {enc:α→List Value} (hn:∀ x,(enc x).length=size) (h1:∀ y,∀ u ∈ enc y,u.oneCell'=true)
  (b:Nat) (vs:Value) (ys:List α) (hx:a.eval x=vs) (hys:RowsK enc size w b vs ys) (h63:n+ys.length≤maxLen) (hbytes:(n+ys.length) * bytes≤140737488355328) (hbase:base≤w.heap.size)
  (h:∀ v' w',w'.ownsRow base e size v' (n+ys.length) (xs ++ ys.flatMap enc)→w.grownBy w' v.ownBlock→wpList Tryz.prog ops Q rest (a.put o.dst v') w'):wpList Tryz.prog ops Q (o :: rest) a w:=
 wpList_plain hgd fun _ hK=>wp_append_rows s x t ho base e i z size bytes ht hi hz hsize hby hzs hsz v n xs hs hown hn h1 b vs ys hx hys h63 hbytes hbase fun v' w' h2 h3=>hK _ _ (h v' w' h2 h3)
end
section
open Go.RowKit Go.Shelf Go.Maps Go.Sort
attribute [local go_sem] Oper.semAt_some
def Strs(w:World)(b:Nat)(v:Value)(xs:List ByteArray):Prop:=
 ∃ a off cap,v = .slice a xs.length cap∧xs.length≤cap∧cap≤9223372036854775807∧(0 < xs.length→a=some ⟨b,off,none⟩)∧(a=none→cap=0)∧∀ i (h:i < xs.length),w.cell? ⟨b,off+i,none⟩=some (.string xs[i])
theorem Strs.fr0{w w':World}{b:Nat}{v:Value}{xs:List ByteArray}(h:Strs w b v xs)(hf:Fr N0 w w'):Strs w' b v xs:=by
 obtain⟨a,off,cap,h1,h2,h3,h4,h5,h6⟩:=h
 exact⟨a,off,cap,h1,h2,h3,h4,h5,fun i hi=>hf.cell id (h6 i hi)⟩
theorem Strs.nil(w:World)(b:Nat):Strs w b (.slice none 0 0) []:=⟨none,0,0,rfl,Nat.le_refl _,by omega,by simp,by simp,by simp⟩
def RisesTo(L:List (List UInt8))(P:List UInt8→Prop):Prop:=L.Pairwise (· < ·)∧∀ x,x ∈ L↔P x
theorem lt_irreflL(x:List UInt8):¬ x < x:=List.lt_irrefl x
theorem RisesTo.unique:∀ {a b:List (List UInt8)} {P:List UInt8→Prop},RisesTo a P→RisesTo b P→a=b
 | [],[],_,_,_=>rfl
 | [],y :: b,P,ha,hb=>by have:=(ha.2 y).2 ((hb.2 y).1 (List.mem_cons_self ..));simp at this
 | x :: a,[],P,ha,hb=>by have:=(hb.2 x).2 ((ha.2 x).1 (List.mem_cons_self ..));simp at this
 | x :: a,y :: b,P,ha,hb=>by
  have ha1:=List.pairwise_cons.1 ha.1;have hb1:=List.pairwise_cons.1 hb.1
  have hxy:x=y:=by
   have h1:=(hb.2 x).2 ((ha.2 x).1 (List.mem_cons_self ..))
   have h2:=(ha.2 y).2 ((hb.2 y).1 (List.mem_cons_self ..))
   simp only [List.mem_cons] at h1 h2
   rcases h1 with h1 | h1
   ·exact h1
   ·rcases h2 with h2 | h2
    ·exact h2.symm
    ·exact absurd (List.lt_trans (ha1.1 _ h2) (hb1.1 _ h1)) (lt_irreflL _)
  subst hxy
  have:a=b:=by
   refine RisesTo.unique (P:=fun z=>P z∧z≠x) ⟨ha1.2,fun z=>?_⟩ ⟨hb1.2,fun z=>?_⟩
   ·constructor
    ·intro hz
     exact⟨(ha.2 z).1 (List.mem_cons_of_mem _ hz),fun e=>by subst e;exact lt_irreflL _ (ha1.1 _ hz)⟩
    ·rintro⟨h1,h2⟩
     have:=(ha.2 z).2 h1
     simp only [List.mem_cons] at this
     exact this.resolve_left h2
   ·constructor
    ·intro hz
     exact⟨(hb.2 z).1 (List.mem_cons_of_mem _ hz),fun e=>by subst e;exact lt_irreflL _ (hb1.1 _ hz)⟩
    ·rintro⟨h1,h2⟩
     have:=(hb.2 z).2 h1
     simp only [List.mem_cons] at this
     exact this.resolve_left h2
  rw[this]
theorem rises_sort{ss:List (List UInt8)}(hn:ss.Nodup){P:List UInt8→Prop}(hm:∀ x,x ∈ ss↔P x):RisesTo (ss.mergeSort leB) P:=by
 have tr:∀ a b c:List UInt8,leB a b=true→leB b c=true→leB a c=true:=fun a b c h1 h2=>by simp only [leB,decide_eq_true_eq] at *;exact List.le_trans h1 h2
 have tot:∀ a b:List UInt8,(leB a b || leB b a)=true:=fun a b=>by simp only [leB,Bool.or_eq_true,decide_eq_true_eq];exact List.le_total a b
 refine⟨?_,fun x=>by rw[List.mem_mergeSort];exact hm x⟩
 have h1:=List.pairwise_mergeSort tr tot ss
 have h2:(ss.mergeSort leB).Nodup:=(List.mergeSort_perm ss leB).nodup_iff.2 hn
 refine(h1.and h2).imp fun {a b} h=>?_
 have h3:a≤b:=by simpa [leB] using h.1
 by_cases hlt:a < b
 ·exact hlt
 ·exact absurd (List.le_antisymm h3 (List.not_lt.1 hlt)) h.2
def once:List (List UInt8)→List (List UInt8)
 | []=>[]
 | x :: l=>if x ∈ l then once l else x :: once l
theorem once_mem:∀ {l:List (List UInt8)} {x:List UInt8},x ∈ once l↔x ∈ l
 | [],x=>by simp [once]
 | y :: l,x=>by
  have ih:=once_mem (l:=l) (x:=x)
  simp only [once]
  split
  ·rename_i h
   rw[ih,List.mem_cons]
   exact⟨.inr,fun h'=>h'.elim (fun e=>e ▸ h) id⟩
  ·rw[List.mem_cons,List.mem_cons,ih]
theorem once_nodup:∀ l:List (List UInt8),(once l).Nodup
 | []=>List.nodup_nil
 | y :: l=>by
  simp only [once]
  split
  ·exact once_nodup l
  ·rename_i h
   exact List.nodup_cons.2 ⟨fun h'=>h (once_mem.1 h'),once_nodup l⟩
def normL(xs:List ByteArray):List (List UInt8):=(once (xs.map (·.data.toList))).mergeSort leB
theorem normL_rises(xs:List ByteArray):RisesTo (normL xs) fun x=>∃ s ∈ xs,s.data.toList=x:=
 rises_sort (once_nodup _) fun x=>by rw[once_mem,List.mem_map]
def normS(xs:List ByteArray):List ByteArray:=(normL xs).map mkS
theorem infoStr:(Tryz.prog.info? 9).map (fun i=>(i.zero,i.size,i.bytes))=some (some (.string ⟨#[]⟩),1,16):=by kernel_rfl
theorem encStr_eq(l:List UInt8):encStr l = .string (mkS l):=rfl
theorem mkS_toList(l:List UInt8):(mkS l).toList=l:=ByteArray.toList_mk l
theorem toListD(s:ByteArray):s.toList=s.data.toList:=ByteArray.toList_eq s
theorem normL_skip{xs:List ByteArray}{s:ByteArray}(h:s.data.toList ∈ normL xs):normL (xs ++ [s])=normL xs:=by
 refine RisesTo.unique (normL_rises _) ⟨(normL_rises xs).1,fun x=>?_⟩
 rw[(normL_rises xs).2]
 constructor
 ·rintro⟨t,ht,rfl⟩;exact⟨t,List.mem_append_left _ ht,rfl⟩
 ·rintro⟨t,ht,rfl⟩
  rcases List.mem_append.1 ht with ht | ht
  ·exact⟨t,ht,rfl⟩
  ·simp at ht;subst ht
   exact((normL_rises xs).2 _).1 h
theorem normL_put{xs:List ByteArray}{s:ByteArray}(j:Nat)(hA:∀ x ∈ (normL xs).take j,x < s.data.toList)(hB:∀ x ∈ (normL xs).drop j,s.data.toList < x) :
  (normL xs).take j ++ s.data.toList ::(normL xs).drop j=normL (xs ++ [s]):=by
 have hs:=(normL_rises xs).1
 rw[← List.take_append_drop j (normL xs),List.pairwise_append] at hs
 refine RisesTo.unique (P:=fun x=>∃ t ∈ xs ++ [s],t.data.toList=x) ⟨?_,fun x=>?_⟩ (normL_rises _)
 ·rw[List.pairwise_append]
  refine⟨hs.1,?_,fun a ha b hb=>?_⟩
  ·rw[List.pairwise_cons];exact⟨hB,hs.2.1⟩
  ·rcases List.mem_cons.1 hb with rfl | hb
   ·exact hA a ha
   ·exact hs.2.2 a ha b hb
 ·have hm:x ∈ normL xs↔x ∈ (normL xs).take j∨x ∈ (normL xs).drop j:=by rw[← List.mem_append,List.take_append_drop]
  rw[(normL_rises xs).2] at hm
  rw[List.mem_append,List.mem_cons]
  constructor
  ·rintro(h | h | h)
   ·obtain⟨t,ht,e⟩:=hm.2 (.inl h);exact⟨t,List.mem_append_left _ ht,e⟩
   ·exact⟨s,by simp,h.symm⟩
   ·obtain⟨t,ht,e⟩:=hm.2 (.inr h);exact⟨t,List.mem_append_left _ ht,e⟩
  ·rintro⟨t,ht,e⟩
   rcases List.mem_append.1 ht with ht | ht
   ·rcases hm.1 ⟨t,ht,e⟩ with h | h
    ·exact .inl h
    ·exact .inr (.inr h)
   ·simp at ht;subst ht;exact .inr (.inl e.symm)
theorem ownsRow_same{w w':World}{base:Nat}{e:TypeId}{size:Nat}{v:Value}{n:Nat}{xs:List Value}(h:w.ownsRow base e size v n xs)
  (hs:∀ g,v.ownBlock=some g→w'.heap[g]?=w.heap[g]?):w'.ownsRow base e size v n xs:=by
 refine⟨h.1,?_⟩
 rcases h.2 with hn | ⟨g,cap,cur,rfl,hb,hgg,rest⟩
 ·exact .inl hn
 ·exact .inr ⟨g,cap,cur,rfl,hb,(hs g rfl).trans hgg,rest⟩
theorem rising_any(w:World)(b:Nat)(v:Value)(xs:List ByteArray)(h:Strs w b v xs)(hl:xs.length≤1000000) :
  Calls Tryz.prog 255 #[v] w fun e w'=>∃ v' bb,e = .returned v'∧Strs w' bb v' (normS xs)∧w.heap.size≤bb∧Fr N0 w w':=by
 obtain⟨i0,hi,hz0,hz1,hz2⟩:=info_parts infoStr
 obtain⟨a,off,cap,rfl,h1,h2,h3,h4,h5⟩:=h
 have HC:=hhd h5
 have hnil:normL [] = []:=by simp [normL,once]
 have hnil0:Hid ((normL (xs.take 0)).length=0):=by rw[List.take_zero,hnil];exact rfl
 clear h4 h5
 go_enter Tryz.func255,Tryz.ntmps255
 go_wp2
 go_loopw [3,4] (fun o iv wr=>∃ (i n:Nat),i≤xs.length∧iv = .int .i64 i∧Hid ((normL (xs.take i)).length=n)∧n≤i∧wr.ownsRow w.heap.size 9 1 o n ((normL (xs.take i)).map encStr)∧Fr N0 w wr) (fun _ iv _=>xs.length - (intOf iv).toNat)
 case atStart=>exact⟨0,0,Nat.zero_le _,by go_num,hnil0,Nat.le_refl _,by rw[List.take_zero,hnil];exact World.ownsRow_nil _ _ _ _,Fr.refl _ _⟩
 case round=>
  obtain⟨i,n,hi1,rfl,hn,hni,hrow,hfr⟩:=hrel
  by_cases hlt:i < xs.length
  ·obtain rfl:=h3 (by omega)
   have hck:=hfr.cell id (HC.out i hlt)
   obtain⟨s,hs⟩:∃ s,xs[i]=s:=⟨_,rfl⟩
   rw[hs] at hck
   have hts:xs.take (i+1)=xs.take i ++ [s]:=by rw[List.take_succ_eq_append_getElem hlt,hs]
   have hlt':(i:Int) < (xs.length:Int):=by omega
   have hskip:=normL_skip (xs:=xs.take i) (s:=s)
   have hput:=fun j=>normL_put (xs:=xs.take i) (s:=s) j
   have hsrt:=(normL_rises (xs.take i)).1
   rw[← hts] at hskip
   simp only [← hts] at hput
   obtain⟨O,hO⟩:∃ O,normL (xs.take i)=O:=⟨_,rfl⟩
   rw[hO] at hrow hn hskip hsrt
   simp only [hO] at hput
   have HSK:=hhd hskip;have HPUT:=hhd hput;have HSR:=hhd hsrt;have HROW:=hhd hrow;have HF:=hhd hfr
   have hlo:∀ (ty:TypeId) (W:World),(Builtin.len_ #[92] ty #[u3]).run Tryz.prog W = .ok (.int .i64 (n:Int)) W:=fun ty W=>by
    rcases hrow.2 with⟨rfl,h0⟩ | ⟨g,cap',cur,rfl,_⟩
    ·rw[h0];rfl
    ·rfl
   have hs0:=hs
   clear hskip hput hsrt hrow hfr hts hO hs
   have hdrop:∀ y ∈ O.drop n,s.data.toList < y:=by
    rw[List.drop_of_length_le (by rw[hn.out];exact Nat.le_refl _)];simp
   have HDR:=hhd hdrop
   clear hdrop
   go_wp2
   go_loopw [5] (fun kv W=>∃ m:Nat,m≤n∧kv = .int .i64 m∧Hid (∀ y ∈ O.drop m,s.data.toList < y)∧W.ownsRow w.heap.size 9 1 u3 n (O.map encStr)∧Fr N0 wr W) (fun kv _=>(intOf kv).toNat)
   case atStart=>exact⟨n,Nat.le_refl _,rfl,HDR.out,HROW.out,Fr.refl _ _⟩
   case round=>
    rename World=>W
    obtain⟨m,hm,rfl,hdm,hrw,hfw⟩:=hrel
    have hckw:=hfw.cell id hck
    have hck0:=hckw
    clear hck
    have hwszW:=(HF.out.then0 hfw).size
    have HRW:=hhd hrw;have HFW:=hhd hfw
    clear hrw hfw hckw
    by_cases hm0:0 < m
    case' neg=>
     have hA:∀ y ∈ O.take m,y < s.data.toList:=by
      rw[show m=0 by omega];simp
     have HA:=hhd hA
     clear hA
     go_wp2
     go_quiet (fail)
     have HRW:=hhd (ownsRow_same (w':=W.drewN nq) HRW.out (fun _ _=>rfl));have HFW:=hhd (HFW.out.drewN nq)
     have hck0:=((Fr.refl N0 W).drewN nq).cell id hck0
     obtain⟨W1,hW1⟩:∃ Wz,W.drewN nq=Wz:=⟨_,rfl⟩
     rw[hW1] at HRW HFW hck0 ⊢
     clear hW1
     go_wp2
     go_quiet (fail)
     have HRW:=hhd (ownsRow_same (w':=W1.drewN nq) HRW.out (fun _ _=>rfl));have HFW:=hhd (HFW.out.drewN nq)
     have hck0:=((Fr.refl N0 W1).drewN nq).cell id hck0
     obtain⟨W2,hW1⟩:∃ Wz,W1.drewN nq=Wz:=⟨_,rfl⟩
     rw[hW1] at HRW HFW hck0 ⊢
     clear hW1
     have hsz2:=(HF.out.then0 HFW.out).size
     go_wp2_with (at_builtin;go_loud (refine wpList_append_lies _ rfl _ _ 92 rfl w.heap.size 9 i0 (.string ⟨#[]⟩) 1 16 Tryz.underlying92 hi hz0 hz1 hz2 rfl (by decide) (u3) (n) _ rfl (HRW.out.alloc _) ⟨W2.heap.size,0,none⟩ 1 1 [.string ⟨#[]⟩] rfl rfl (World.news_of_block (cs:=#[.string ⟨#[]⟩]) (t:=9) (fr:=(0,0)) (heap_alloc_new W2 _)) (by simp [Value.oneCell']) (by omega) (by unfold maxLen;omega) (by omega) (by simp;omega) (W2.heap.size+1) (by simp) ?_);intro g gc W3 hown3 hg3 hfresh3 hlt3;have HO3:=hhd hown3;have HF3:=hhd (((HF.out.then0 HFW.out).alloc _).grown hg3 fun k e=>.inr (HRW.out.lt k e).1);clear hown3 hg3)
    case' pos=>
     obtain⟨p,rfl⟩:∃ p,m=p+1:=⟨m - 1,by omega⟩
     obtain⟨gg,cc,cur,hu3,hgb,hgg,hnc,hcm,_⟩:=(HRW.out.2.resolve_left fun h=>by omega)
     subst hu3
     have hpO:p < O.length:=by rw[hn.out];omega
     have hdrop:O.drop p=O[p] :: O.drop (p+1):=List.drop_eq_getElem_cons hpO
     have hsrt:=HSR.out
     obtain⟨A,hAA⟩:∃ A,mkS O[p]=A:=⟨_,rfl⟩
     have hAl:A.toList=O[p]:=by rw[← hAA,mkS_toList]
     have hpn:(p:Int) < (n:Int):=by omega
     have hw1:IntKind.i64.wrap ((p:Int)+1 - 1)=(p:Int):=by rw[IntWalk.i64_in _ (by omega)];omega
     have hsl:s.toList=s.data.toList:=toListD s
     have hgt:(Op.bytesLess A.toList s.toList || A.toList == s.toList)=decide (O[p]≤s.data.toList):=by
      rw[bytesLess_eq,hAl,hsl]
      rw[Bool.eq_iff_iff]
      simp only [Bool.or_eq_true,decide_eq_true_eq,beq_iff_eq]
      constructor
      ·rintro(h | h)
       ·exact List.le_of_lt h
       ·rw[h];exact List.le_refl _
      ·intro h
       by_cases h':O[p] < s.data.toList
       ·exact .inl h'
       ·exact .inr (List.le_antisymm h (List.not_lt.1 h'))
     clear hgg hgb
     have e1:W.cell? ⟨gg,p,none⟩=some (.string A):=by
      rw[HRW.out.cellAt p (by omega),List.getElem?_map,List.getElem?_eq_getElem hpO,Option.map_some,encStr_eq,hAA]
     cases hle:decide (O[p]≤s.data.toList)
     case' false=>
      have hlt3:s.data.toList < O[p]:=by
       have:=of_decide_eq_false hle
       exact List.not_le.1 this
      rw[hle] at hgt
      clear hle hAl hsl hlo
      go_wp2
      go_quiet (fail)
      go_wp2
      go_roundw
      case rel=>
       refine⟨p,by omega,by go_num,?_,ownsRow_same HRW.out (fun _ _=>rfl),HFW.out.drewN _⟩
       intro y hy
       rw[hdrop] at hy
       rcases List.mem_cons.1 hy with h | h
       ·rw[h];exact hlt3
       ·exact hdm.out y h
      case measure=>simp [intOf]
     case' true=>
      have hle':O[p]≤s.data.toList:=of_decide_eq_true hle
      rw[hle] at hgt
      have hlow:∀ y ∈ O.take (p+1),y=O[p]∨y < O[p]:=fun y hy=>by
       obtain⟨q,hq,rfl⟩:=List.mem_take_iff_getElem.1 hy
       rcases Nat.lt_or_ge q p with h1 | h1
       ·exact .inr ((List.pairwise_iff_getElem.1 hsrt) q p (by omega) hpO h1)
       ·have:q=p:=by omega
        subst this;exact .inl rfl
      have heq:(A.toList == s.toList)=decide (O[p]=s.data.toList):=by
       rw[hAl,hsl,Bool.eq_iff_iff];simp
      have hmem:O[p] ∈ O:=List.getElem_mem hpO
      clear hle
      cases he:decide (O[p]=s.data.toList)
      case' true=>
       have hin:s.data.toList ∈ O:=by rw[← of_decide_eq_true he];exact hmem
       have hsk:=HSK.out hin
       have HSK2:=hhd hsk
       rw[he] at heq
       have hbl:Op.bytesLess A.toList s.toList=false:=by
        rw[bytesLess_eq,hAl,hsl,of_decide_eq_true he];exact decide_eq_false (List.lt_irrefl _)
       clear hgt
       clear he hin hsk hlow hmem hle' hAl hsl hlo hdrop hsrt
       go_wp2
       go_quiet (fail)
       have HRW:=hhd (ownsRow_same (w':=W.drewN nq) HRW.out (fun _ _=>rfl));have HFW:=hhd (HFW.out.drewN nq)
       have hck0:=((Fr.refl N0 W).drewN nq).cell id hck0
       obtain⟨W1,hW1⟩:∃ Wz,W.drewN nq=Wz:=⟨_,rfl⟩
       rw[hW1] at HRW HFW hck0 ⊢
       clear hW1
       have e1:W1.cell? ⟨gg,p,none⟩=some (.string A):=by
        rw[HRW.out.cellAt p (by omega),List.getElem?_map,List.getElem?_eq_getElem hpO,Option.map_some,encStr_eq,hAA]
       go_wp2
       go_quiet (fail)
       have HRW:=hhd (ownsRow_same (w':=W1.drewN nq) HRW.out (fun _ _=>rfl));have HFW:=hhd (HFW.out.drewN nq)
       have hck0:=((Fr.refl N0 W1).drewN nq).cell id hck0
       obtain⟨W2,hW1⟩:∃ Wz,W1.drewN nq=Wz:=⟨_,rfl⟩
       rw[hW1] at HRW HFW hck0 ⊢
       clear hW1
       go_wp2
       go_roundw
       case rel=>exact⟨i+1,n,by omega,by go_num,by rw[HSK2.out];exact hn,by omega,by rw[HSK2.out];exact HRW.out,HF.out.then0 HFW.out⟩
       case measure=>simp [intOf];omega
      case' false=>
       have hne:O[p]≠s.data.toList:=of_decide_eq_false he
       have hltA:O[p] < s.data.toList:=by
        by_cases h':O[p] < s.data.toList
        ·exact h'
        ·exact absurd (List.le_antisymm hle' (List.not_lt.1 h')) hne
       have hA:∀ y ∈ O.take (p+1),y < s.data.toList:=fun y hy=>by
        rcases hlow y hy with h | h
        ·rw[h];exact hltA
        ·exact List.lt_trans h hltA
       have HA:=hhd hA
       rw[he] at heq
       have hbl:Op.bytesLess A.toList s.toList=true:=by
        rw[bytesLess_eq,hAl,hsl];exact decide_eq_true hltA
       clear hgt
       clear he hne hltA hA hlow hmem hle' hAl hsl hdrop hsrt
       go_wp2
       go_quiet (fail)
       have HRW:=hhd (ownsRow_same (w':=W.drewN nq) HRW.out (fun _ _=>rfl));have HFW:=hhd (HFW.out.drewN nq)
       have hck0:=((Fr.refl N0 W).drewN nq).cell id hck0
       obtain⟨W1,hW1⟩:∃ Wz,W.drewN nq=Wz:=⟨_,rfl⟩
       rw[hW1] at HRW HFW hck0 ⊢
       clear hW1
       have e1:W1.cell? ⟨gg,p,none⟩=some (.string A):=by
        rw[HRW.out.cellAt p (by omega),List.getElem?_map,List.getElem?_eq_getElem hpO,Option.map_some,encStr_eq,hAA]
       go_wp2
       go_quiet (fail)
       have HRW:=hhd (ownsRow_same (w':=W1.drewN nq) HRW.out (fun _ _=>rfl));have HFW:=hhd (HFW.out.drewN nq)
       have hck0:=((Fr.refl N0 W1).drewN nq).cell id hck0
       obtain⟨W2,hW1⟩:∃ Wz,W1.drewN nq=Wz:=⟨_,rfl⟩
       rw[hW1] at HRW HFW hck0 ⊢
       clear hW1
       have hsz2:=(HF.out.then0 HFW.out).size
       clear e1
       go_wp2_with (at_builtin;go_loud (refine wpList_append_lies _ rfl _ _ 92 rfl w.heap.size 9 i0 (.string ⟨#[]⟩) 1 16 Tryz.underlying92 hi hz0 hz1 hz2 rfl (by decide) (.slice (some ⟨gg,0,none⟩) n cc) (n) _ rfl (HRW.out.alloc _) ⟨W2.heap.size,0,none⟩ 1 1 [.string ⟨#[]⟩] rfl rfl (World.news_of_block (cs:=#[.string ⟨#[]⟩]) (t:=9) (fr:=(0,0)) (heap_alloc_new W2 _)) (by simp [Value.oneCell']) (by omega) (by unfold maxLen;omega) (by omega) (by simp;omega) (W2.heap.size+1) (by simp) ?_);intro g gc W3 hown3 hg3 hfresh3 hlt3;have HO3:=hhd hown3;have HF3:=hhd (((HF.out.then0 HFW.out).alloc _).grown hg3 fun k e=>.inr (HRW.out.lt k e).1);clear hown3 hg3)
       obtain⟨m,hmm⟩:∃ m:Nat,(p:Int)+1=(m:Int):=⟨p+1,by omega⟩
       have hpm:p+1=m:=by omega
       rw[hpm] at HA hdm hm
       simp only [hmm]
       clear hmm hpm hw1 hpn heq hbl
    all_goals
     have hnO:=hn.out
     have hgb:w.heap.size≤g:=(HO3.out.lt g rfl).1
     have hr3:W3.ownsRow w.heap.size 9 1 (.slice (some ⟨g,0,none⟩) (n+1) gc) (n+1) ((O ++ [[]]).map encStr):=by
      have:=HO3.out
      simpa [encStr] using this
     have HR3:=hhd hr3
     have hck3:∀ W',Fr N0 w W'→W'.cell? ⟨b,off+i,none⟩=some (.string s):=fun W' hW'=>by
      have:=HC.out i hlt
      rw[hs0] at this
      exact hW'.cell id this
     have HCK3:=hhd hck3
     have hres:=HPUT.out m HA.out hdm.out
     have HRES:=hhd hres
     clear hr3 hck3 hck0 HO3 hres HPUT HSK HSR
     go_loopw [6] (fun jv W=>∃ (j:Nat) (ys:List (List UInt8)),m≤j∧j≤n∧jv = .int .i64 j∧Hid (ys.length=n+1∧ys.take j=O.take j∧ys.drop (j+1)=O.drop j) ∧
       W.ownsRow w.heap.size 9 1 (.slice (some ⟨g,0,none⟩) (n+1) gc) (n+1) (ys.map encStr)∧Fr N0 w W) (fun jv _=>(intOf jv).toNat)
     case atStart=>
      refine⟨n,O ++ [[]],hm,Nat.le_refl _,rfl,⟨by simp [hnO],?_,?_⟩,HR3.out,HF3.out⟩
      ·rw[List.take_append_of_le_length (by omega)]
      ·rw[List.drop_of_length_le (by simp;omega),List.drop_of_length_le (by omega)]
     case round=>
      rename World=>Wj
      obtain⟨j,ys,hmj,hjn,rfl,hy,hrj,hfj⟩:=hrel
      by_cases hjm:(m:Int) < (j:Int)
      ·obtain⟨q,rfl⟩:∃ q,j=q+1:=⟨j - 1,by omega⟩
       have hqO:q < O.length:=by omega
       have hqy:q < ys.length:=by have:=hy.out.1;omega
       have hyq:ys[q]=O[q]:=by
        have:=congrArg (fun l=>l[q]?) hy.out.2.1
        simpa [List.getElem?_take,hqO,hqy] using this
       have hdq:O.drop q=O[q] :: O.drop (q+1):=List.drop_eq_getElem_cons hqO
       obtain⟨y,hyy⟩:∃ y,O[q]=y:=⟨_,rfl⟩
       rw[hyy] at hyq hdq
       have e1:Wj.cell? ⟨g,q,none⟩=some (.string (mkS y)):=by
        rw[hrj.cellAt q (by omega),List.getElem?_map,List.getElem?_eq_getElem hqy,Option.map_some,hyq];rfl
       have e2:∃ v2,Wj.cell? ⟨g,q+1,none⟩=some v2:=⟨_,by rw[hrj.cellAt (q+1) (by omega)];exact List.getElem?_eq_getElem (by simp;have:=hy.out.1;omega)⟩
       obtain⟨v2,e2⟩:=e2
       have f2:=hrj.frozenAt (q+1)
       have hst:=(hrj.stored (q+1) (.string (mkS y))).1
       have hwq:IntKind.i64.wrap ((q:Int)+1 - 1)=(q:Int):=by rw[IntWalk.i64_in _ (by omega)];omega
       have hqn:(q:Int)+1 < (n:Int)+1:=by omega
       have hqn2:(q:Int) < (n:Int)+1:=by omega
       have HST:=hhd hst;have HFJ:=hhd hfj;have HDQ:=hhd hdq;have HYQ:=hhd hyq
       clear hst hfj hdq hyq hyy hrj hqO
       go_wp2
       go_roundw
       case rel=>
        refine⟨q,ys.set (q+1) y,by omega,by omega,by go_num,⟨by simpa using hy.out.1,?_,?_⟩,by simpa [List.map_set,encStr,mkS] using HST.out,HFJ.out.setCell (p:=⟨g,q+1,none⟩) (.inr hgb) _⟩
        ·rw[List.take_set_of_le (by omega)]
         have:=congrArg (fun l=>l.take q) hy.out.2.1
         simpa [List.take_take] using this
        ·rw[HDQ.out,← hy.out.2.2,List.drop_eq_getElem_cons (by simp;have:=hy.out.1;omega),List.getElem_set_self,List.drop_set_of_lt (by omega)]
       case measure=>simp [intOf]
      ·obtain rfl:j=m:=by omega
       have e0:=HCK3.out Wj hfj
       have e2:∃ v2,Wj.cell? ⟨g,j,none⟩=some v2:=⟨_,by rw[hrj.cellAt j (by omega)];exact List.getElem?_eq_getElem (by simp;have:=hy.out.1;omega)⟩
       obtain⟨v2,e2⟩:=e2
       have f2:=hrj.frozenAt j
       have hst:=(hrj.stored j (.string s)).1
       have hset:ys.set j s.data.toList=normL (xs.take (i+1)):=by
        rw[← HRES.out,List.set_eq_take_append_cons_drop,if_pos (by have:=hy.out.1;omega),hy.out.2.1,hy.out.2.2]
       have hjn1:(j:Int) < (n:Int)+1:=by omega
       have HST:=hhd hst;have HFJ:=hhd hfj;have HSET:=hhd hset
       clear hst hfj hset hrj
       go_wp2
       go_roundw
       case rel=>
        refine⟨i+1,n+1,by omega,by go_num,?_,by omega,?_,HFJ.out.setCell (p:=⟨g,j,none⟩) (.inr hgb) _⟩
        ·show(normL (xs.take (i+1))).length=n+1
         rw[← HSET.out,List.length_set];exact hy.out.1
        ·rw[← HSET.out,List.map_set,encStr_eq,mkS_data];exact HST.out
       case measure=>simp [intOf];omega
  ·obtain rfl:i=xs.length:=by omega
   rw[List.take_length] at hrow hn
   have HROW:=hhd hrow;have HF:=hhd hfr
   clear hrow hfr
   go_wp2
   go_ret
   rcases HROW.out.2 with⟨hv,h0⟩ | ⟨g,cap',cur,hv,hgb,hgg,hnc,hcm,_⟩
   ·have:normL xs = []:=List.eq_nil_of_length_eq_zero (by rw[hn.out];exact h0)
    refine⟨_,w.heap.size,rfl,?_,Nat.le_refl _,HF.out⟩
    rw[normS,this]
    show Strs wr w.heap.size u3 []
    rw[hv];exact Strs.nil _ _
   ·refine⟨_,g,rfl,?_,hgb,HF.out⟩
    show Strs wr g u3 (normS xs)
    have hnl:(normS xs).length=n:=by rw[normS,List.length_map];exact hn.out
    refine⟨some ⟨g,0,none⟩,0,cap',by rw[hnl];exact hv,by omega,by unfold maxLen at hcm;omega,fun _=>rfl,by simp,fun k hk=>?_⟩
    have hk':k < (normL xs).length:=by rw[hn.out,← hnl];exact hk
    have hrw:=HROW.out
    rw[hv] at hrw
    rw[Nat.zero_add,hrw.cellAt k (by omega),List.getElem?_map,List.getElem?_eq_getElem hk']
    simp [normS,encStr,mkS]
end
end Go.Proofs.YtefepfiijoafbaaGreat
