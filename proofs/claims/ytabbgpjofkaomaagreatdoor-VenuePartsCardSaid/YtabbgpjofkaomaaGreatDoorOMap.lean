import Derived.Test.YtabbgpjofkaomaaGreatDoorJ9
import Derived.Test.YtabbgpjofkaomaaGreatDoorJ31
set_option linter.unusedSimpArgs false
set_option linter.unusedVariables false
/- A map from numbers to numbers, by what each key holds; as a thing of its own. -/
namespace Go.Proofs.YtabbgpjofkaomaaGreatDoor
open Go.RowKit Go.Maps
def encN:Value→Option (DataW Unit × List MemPlace)
 | .int .i64 x=>some (.lit (.int .i64 x),[])
 | _=>none
theorem encN_inj {v v':Value} {d:DataW Unit} {ps ps':List MemPlace} (h:encN v=some (d,ps)) (h':encN v'=some (d,ps')):v=v':=by
 unfold encN at h h'
 split at h<;>split at h'<;>simp_all
 obtain ⟨rfl,_⟩:=h
 simp at h'
 simp_all
def MapN (w:World) (b n:Nat) (F:Int→Int):Prop:=∃ D:DataW Unit,w.ownsMap Tryz.prog 3 encN b n D∧IsMap D∧∀ p:Int,encN (.int .i64 (F p))=some (D.atKey (.int .i64 p) (.lit (.int .i64 0)),[])
theorem zeroInt (w:World):(zeroValue 3).run Tryz.prog w=.ok (.int .i64 0) w:=by kernel_rfl
section
variable {w w':World} {b n m:Nat} {F:Int→Int}
theorem MapN.made (w:World):MapN (w.alloc (.map #[] 0)) w.heap.size 0 (fun _=>0):=⟨.map [],World.ownsMap_made w _ _ _,isMap_empty,fun p=>rfl⟩
theorem MapN.lt (h:MapN w b n F):b<w.heap.size:=by obtain ⟨D,h1,_⟩:=h;exact h1.lt
theorem MapN.block (h:MapN w b n F) (hb:w'.heap[b]?=w.heap[b]?):MapN w' b n F:=by
 obtain ⟨D,⟨es,c,h1,r⟩,h2,h3⟩:=h
 exact ⟨D,⟨es,c,hb.trans h1,r⟩,h2,h3⟩
theorem MapN.ex (h:MapN w b n F) (hx:Ex w w'):MapN w' b n F:=h.block (hx.below.block b h.lt)
theorem MapN.lookup (h:MapN w b n F) {p:Int} (hp:-9223372036854775808≤p∧p≤9223372036854775807) :
  (Instr.lookup 227 (.map (some b)) (.int .i64 p) false).run Tryz.prog w=.ok (.int .i64 (F p)) w:=by
 obtain ⟨D,h1,h2,h3⟩:=h
 obtain ⟨v,ps,hr,hv⟩:=h1.lookup (int_keyed Tryz.underlying3) Tryz.underlying227 (zeroInt w) (zd:=.lit (.int .i64 0)) (zp:=[]) rfl (keyOf_int_mk Tryz.underlying3 (lit64 hp))
 rw [hr,encN_inj hv (h3 p)]
theorem wpList_update_n {ops:Array Oper} {rest:List Oper} {o:Oper} {a:Act} {Q:Exit→Act→World→Prop} (hg:o.guard=none) (m x v:Operand) (hop:o.op=Op.mapUpdate 227 m x v)
  (h:MapN w b n F) (hn:n<maxLen) (p:Int) (hp:-9223372036854775808≤p∧p≤9223372036854775807) (c:Int) (hm:a.eval m=.map (some b)) (hx:a.eval x=.int .i64 p) (hv:a.eval v=.int .i64 c)
  (hK:∀ w',MapN w' b (n+1) (fun q=>if q=p then c else F q)→w.grownBy w' (some b)→wpList Tryz.prog ops Q rest (a.put o.dst undef) w') :
  wpList Tryz.prog ops Q (o::rest) a w:=by
 obtain ⟨D,h1,h2,h3⟩:=h
 refine wpList_mapUpdate_own w hg m x v 227 hop 3 3 (int_keyed Tryz.underlying3) Tryz.underlying227 encN b n D hm h1 hn (.int .i64 p) (.int .i64 c) (.int .i64 p) hx hv (keyOf_int_mk Tryz.underlying3 (lit64 hp)) (.lit (.int .i64 c)) [] rfl
  (fun w' k1 k2=>hK w' ⟨_,k1,h2.put _ _,fun q=>?_⟩ k2)
 by_cases e:q=p
 ·subst e
  show encN (.int .i64 (if q=q then c else F q))=_
  rw [if_pos rfl,atKey_put_same (k:=.int .i64 q) h2 trivial]
  rfl
 ·show encN (.int .i64 (if q=p then c else F q))=_
  rw [if_neg e,atKey_put_other (by intro e2;cases e2;exact e rfl)]
  exact h3 q
end
def mapTh (b n:Nat) (F:Int→Int):Th where
 P G w:=(∀ k,G k↔k=b)∧MapN w b n F
 lt h k hk:=by rw [(h.1 k).1 hk];exact h.2.lt
 same h ho hn:=⟨h.1,h.2.block (ho.block b h.2.lt (hn b ((h.1 b).2 rfl)))⟩
def ownF (l:List Lot):Nat→Int→Int
 | 0=>fun _=>0
 | k+1=>fun q=>match l[k]? with
  | some x=>if q=x.id then x.owner else ownF l k q
  | none=>ownF l k q
theorem ownF_step {l:List Lot} {k:Nat} (hk:k<l.length):ownF l (k+1)=fun q=>if q=l[k].id then l[k].owner else ownF l k q:=by
 funext q
 show (match l[k]? with|some x=>if q=x.id then x.owner else ownF l k q|none=>ownF l k q)=_
 rw [List.getElem?_eq_getElem hk]
end Go.Proofs.YtabbgpjofkaomaaGreatDoor
