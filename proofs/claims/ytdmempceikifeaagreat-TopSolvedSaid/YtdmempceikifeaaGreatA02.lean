import Derived.Test.YtdmempceikifeaaGreatA01
import Derived.Below
import Derived.ChangeSame
import Derived.DataElems
import Derived.Deep.Draws
import Derived.Deep.Grids
import Derived.Deep.Matrix
import Derived.Deep.Slices
import Derived.Laws.Cover3
import Derived.Laws.OwnMore
import Derived.Maps.AppendAt
import Derived.OpenShut
import Derived.OwnWalk
import Derived.ProofKit
set_option maxRecDepth 100000
set_option maxHeartbeats 16000000
set_option linter.all false
namespace Go.Proofs.YtdmempceikifeaaGreat
open Go.RowKit Tryz
section
open Go.ChangeAt Go.ChangeShapes Go.Deep Go.WideShapes
def AB(w:Aj)(A:AD)(n:Nat)(xs:An):Prop:=xs.length=n/\n<=Bh/\(∀x∈xs,-9223372036854775808<=x/\x<=9223372036854775807)/\(0<n->∃u,A=some u/\∀j x,xs[j]? =some x->w.cell? (u.add j)=some (.int .i64 x))
def Ae(w w':Aj):Prop:=Below w w w'
theorem Ae.refl(w):Ae w w:=Below.refl _ _
theorem Ae.trans{a b c}(h:Ae a b)(k:Ae b c):Ae a c:=Below.trans h (Below.mono k h.size)
theorem Ae.trans'{a b c}(k:Ae b c)(h:Ae a b):Ae a c:=h.trans k
theorem Ae.drew{a w}(h:Ae a w):Ae a w.drew:=Below.drew h
theorem Ae.drewN{a w}(h:Ae a w)(n):Ae a (w.drewN n):=⟨h.os,h.tape,h.output,h.size,h.block⟩
theorem Ae.alloc{a w}(h:Ae a w)(o):Ae a (w.alloc o):=Below.alloc h h.size o
attribute [grind ←] Ae.refl Ae.alloc Ae.drew Ae.drewN
attribute [grind →] Ae.trans
def Ae.setCell{a w}(h:Ae a w){p}(E:a.heap.size<=p.block)(u):Ae a (w.setCell p u):=Below.setCell h E u
def Ae.grown{a w w' ze}(h:Ae a w)(u:w.grownBy w' ze)(E:∀k,ze=some k->a<=k):Ae a w':=Below.grown h u h.size E
def Ae.size_le{w w'}(h:Ae w w'):w.heap.size<=w'.heap.size:=Below.size h
def Ae.cell{w w'}(h:Ae w w'){p v}(u:w.cell? p=some v):w'.cell? p=some v:=(Below.cell h (xu w p u)).trans u
def Ae.frozen{w w'}(h:Ae w w'){p v}(u:w.cell? p=some v):w'.frozen? p=w.frozen? p:=Below.frozen h (xu w p u)
section
variable{w w'}{A}{n}{xs}
theorem AB.ext(h:AB w A n xs)(u:Ae w w'):AB w' A n xs:=⟨h.1,h.2.1,h.2.2.1,λE=>let⟨J,e,O⟩:=h.2.2.2 E;⟨J,e,λj x T=>u.cell (O j x T)⟩⟩
theorem AB.nil(w):AB w none 0 []:=⟨rfl,Ax,AG,λh=>absurd h Ad⟩
theorem AB.len(h:AB w A n xs):n<=Bh:=h.2.1
theorem AB.at_(h:AB w A n xs){k}(T:k<n):∃u x,A=some u/\Hid (xs[k]? =some x)/\w.cell? (u.add k)=some (.int .i64 x)/\-9223372036854775808<=x/\x<=9223372036854775807:=by
 obtain⟨u,e,O⟩:=h.2.2.2 Ad;have E:k<xs.length:=by have:=h.1;omega
 have J:=zr E;exact⟨u,xs[k],e,zk J,O k _ J,h.2.2.1 _ (aak E)⟩
end
def Aq(w:Aj)(g:Nat)(t:TypeId)(cs:Ck):Prop:=w.heap[g]? =some (.cells cs t (0,0))
section
variable{w w'}{g}{t}{cs}
theorem Aq.lt(h:Aq w g t cs):g<w:=by grind[Nat.lt_or_ge,Aq,Array.getElem?_eq_none]
theorem Aq.cell(h:Aq w g t cs)(i):w.cell? ⟨g,i,none⟩=cs[i]?:=cell_of_row w g i cs t (0,0) h
theorem Aq.frozen(h:Aq w g t cs)(i):w.frozen? ⟨g,i,none⟩=false:=by grind[Aq,World.frozen?]
theorem Aq.new(w:Aj)(t cs):Aq (w.alloc (.cells cs t)) w t cs:=aaf w _
theorem Aq.drewN(h:Aq w g t cs)(n):Aq (w.drewN n) g t cs:=h
theorem Aq.alloc(h:Aq w g t cs)(o):Aq (w.alloc o) g t cs:=(add w o g h.lt).trans h
theorem Aq.ad(h:Aq w g t cs)(i u):Aq (w.setCell ⟨g,i,none⟩ u) g t (cs.setIfInBounds i u):=by grind[Aq,World.setCell]
theorem Aq.ar(h:Aq w g t cs){p}(E:g≠p.block)(u):Aq (w.setCell p u) g t cs:=(yt w p u g E).trans h
theorem Aq.below{B}(h:Aq w g t cs)(hb:Below B w w')(u:g<B):Aq w' g t cs:=(hb.block g u).trans h
theorem Aq.ext(h:Aq w g t cs)(hb:Ae w w'):Aq w' g t cs:=h.below hb h.lt
theorem Aq.keep(h:Aq w g t cs)(e:w'.heap[g]? =w.heap[g]?):Aq w' g t cs:=e.trans h
theorem Aq.ints{zh n xs}(h:Aq w g t cs)(u:xs.length=n)(E:n<=9223372036854775807)(J:∀x∈xs,-9223372036854775808<=x/\x<=9223372036854775807) (O:∀(j:Nat)(x),xs[j]? =some x->cs[j]? =some (Value.int .i64 x))(_hcap:n<=zh):AB w (some ⟨g,0,none⟩) n xs:=by
 refine⟨u,E,J,λ_=>⟨_,rfl,λj x T=>?_⟩⟩;have e:(g:Addr).add j=⟨g,j,none⟩:=by unfold Addr.add;split<;>simp_all
 rw[e,h.cell j];simp_all
end
def AM{u:Type}{l:List u}{k x}(h:l[k]? =some x):l.take (k+1)=l.take k++[x]:=by rw[abj,h];rfl
def CI{u:Type}{l:List u}{k n}(h:l.length=n)(E:¬k<n):l.take k=l:=z1 Ad
section
variable{H}{enc}{P}{W W'}
end
def Bw(w:Aj)(A:AD)(n:Nat)(xs:List Bool):Prop:=xs.length=n/\n<=9223372036854775807/\(0<n->∃u,A=some u/\∀j x,xs[j]? =some x->w.cell? (u.add j)=some (.bool x))
section
variable{w w'}{A}{n}{xs}
theorem Bw.ext(h:Bw w A n xs)(u:Ae w w'):Bw w' A n xs:=⟨h.1,h.2.1,λE=>let⟨J,e,O⟩:=h.2.2 E;⟨J,e,λj x T=>u.cell (O j x T)⟩⟩
theorem Bw.nil(w):Bw w none 0 []:=⟨rfl,Ax,λh=>absurd h Ad⟩
theorem Bw.len(h:Bw w A n xs):n<=Bh:=h.2.1
theorem Bw.at_(h:Bw w A n xs){k}(J:k<n):∃u x,A=some u/\Hid (xs[k]? =some x)/\w.cell? (u.add k)=some (.bool x):=by
 obtain⟨u,e,O⟩:=h.2.2 Ad;have E:k<xs.length:=by have:=h.1;omega
 have T:=zr E;grind[Lib.hid]
end
def Aq.bools{w g t cs n xs}(h:Aq w g t cs)(u:xs.length=n)(E:n<=9223372036854775807) (J:∀(j:Nat)(x),xs[j]? =some x->cs[j]? =some (Value.bool x)):Bw w (some ⟨g,0,none⟩) n xs:=by
 refine⟨u,E,λ_=>⟨_,rfl,λj x O=>?_⟩⟩;have e:(g:Addr).add j=⟨g,j,none⟩:=by unfold Addr.add;split<;>simp_all
 rw[e,h.cell j];grind
def AdU(xs:List Bool)(w:Aj)(e:Bz)(w':Aj):Prop:=∃A m c,e=.returned (.slice A m c)/\Bw w' A m xs/\Ae w w'
section
variable{H}{enc}{P}{W}
end
def Bf(w:Aj)(A:AD)(n:Nat)(L:AT):Prop:=L.length=n/\n<=Bh/\(0<n->∃u,A=some u/\∀j xs,L[j]? =some xs->∃A' n' c',w.cell? (u.add j)=some (.slice A' n' c')/\AB w A' n' xs)
section
variable{w w'}{A}{n}{L}
theorem Bf.ext(h:Bf w A n L)(u:Ae w w'):Bf w' A n L:=⟨h.1,h.2.1,λE=>let⟨J,e,O⟩:=h.2.2 E;⟨J,e,λj xs T=>let⟨A',n',c',U,V⟩:=O j xs T;⟨A',n',c',u.cell U,V.ext u⟩⟩⟩
theorem Bf.nil(w):Bf w none 0 []:=⟨rfl,Ax,λh=>absurd h Ad⟩
theorem Bf.len(h:Bf w A n L):n<=Bh:=h.2.1
theorem Bf.at_(h:Bf w A n L){k}(J:k<n):∃u xs A' n' c',A=some u/\Hid (L[k]? =some xs)/\w.cell? (u.add k)=some (.slice A' n' c')/\AB w A' n' xs:=by
 obtain⟨u,e,O⟩:=h.2.2 Ad;have E:k<L.length:=by have:=h.1;omega
 have T:=zr E;grind[Lib.hid]
end
section
variable{H}{enc}{P}{W}
end
theorem NF(w:World)(cs u xs n)(E:xs.length=n)(J:cs.toList=xs.map (Value.int .i64))(O:n<=9223372036854775807)(T:∀x∈xs,-9223372036854775808<=x/\x<=9223372036854775807):AB (w.alloc (.cells cs u)) (some ⟨w.heap.size,0,none⟩) n xs:=by
 refine⟨E,O,T,λ_=>⟨_,rfl,λj x U=>?_⟩⟩;have e:(w:Addr).add j=⟨w,j,none⟩:=by unfold Addr.add;split<;>simp_all
 rw[e,cell_of_row (w.alloc (.cells cs u)) w j cs u (0,0) (aaf w _)];rw[<-ack,J];simp_all
theorem X7(w:World)(cs u xs n)(E:xs.length=n)(J:cs.toList=xs.map Value.bool)(O:n<=9223372036854775807):Bw (w.alloc (.cells cs u)) (some ⟨w.heap.size,0,none⟩) n xs:=by
 refine⟨E,O,λ_=>⟨_,rfl,λj x T=>?_⟩⟩;have e:(w:Addr).add j=⟨w,j,none⟩:=by unfold Addr.add;split<;>simp_all
 rw[e,cell_of_row (w.alloc (.cells cs u)) w j cs u (0,0) (aaf w _)];rw[<-ack,J];simp_all
def Ka(cs u xs n)(E:xs.length=n)(J:cs.toList=xs.map (Value.int .i64))(O:n<=9223372036854775807)(T:∀x∈xs,-9223372036854775808<=x/\x<=9223372036854775807) (w:World)(g)(U:w.heap.size=g):AB (w.alloc (.cells cs u)) g n xs:=by grind[NF]
def VE(cs u xs n)(E:xs.length=n)(J:cs.toList=xs.map Value.bool)(O:n<=9223372036854775807) (w:World)(g)(T:w.heap.size=g):Bw (w.alloc (.cells cs u)) (some ⟨g,0,none⟩) n xs:=by grind[X7]
def Hp(w:Aj):List Aw->AT->Prop
 |[],[]=>True
 |v::vs,xs::L=>(∃A n c,v=.slice A n c/\AB w A n xs)/\Hp w vs L
 |_,_=>False
def Hp.at_{w}:∀{vs}{L}{j:Nat}{xs},Hp w vs L->L[j]? =some xs->∃A n c,vs[j]? =some (.slice A n c)/\AB w A n xs
 |[],[],_,_,_,h=>by simp_all
 |v::vs,u::L,0,xs,h,E=>by
  obtain⟨⟨A,n,c,rfl,J⟩,_⟩:=h;obtain rfl:u=xs:=by simp_all
  exact⟨A,n,c,rfl,J⟩
 |v::vs,u::L,j+1,xs,h,E=>by obtain⟨A,n,c,O,T⟩:=Hp.at_ (j:=j) (xs:=xs) h.2 (by simpa using E);exact⟨A,n,c,by simpa using O,T⟩
def Hp.nil(w):Hp w [] []:=trivial
def Hp.cons{w A n c xs vs L}(h:AB w A n xs)(t:Hp w vs L):Hp w (.slice A n c::vs) (xs::L):=⟨⟨A,n,c,rfl,h⟩,t⟩
def Bf.take{w A n k L}(h:Bf w A n L)(u:k<=n):Bf w A k (L.take k):=by refine⟨by rw[ya,h.1];omega,by have:=h.2.1;omega,λE=>?_⟩;obtain⟨J,e,O⟩:=h.2.2 Ad;grind
end
def Jr:(prog.info? 3).map (λi=>(i.zero,i.size,i.bytes))=some (some (.int .i64 0),1,8):=by kernel_rfl
def Ay(w:Aj)(za:Nat)(v:Aw)(xs:An):Prop:=w.ownsRow za 3 1 v xs.length (xs.map (Value.int .i64))
section
variable{w w'}{za}{v}{xs}
theorem Ay.nil(w za):Ay w za AI []:=ab0 _ _ _ _
theorem Ay.alloc(h:Ay w za v xs)(o):Ay (w.alloc o) za v xs:=acu h o
theorem Ay.drewN(h:Ay w za v xs)(n):Ay (w.drewN n) za v xs:=h
theorem Ay.kept{ze}(h:Ay w za v xs)(u:w.grownBy w' ze)(E:v.ownBlock=none\/v.ownBlock≠ze):Ay w' za v xs:=aan h u E
theorem Ay.ext(h:Ay w za v xs)(E:Ae w w'):Ay w' za v xs:=by refine⟨h.1,?_⟩;rcases h.2 with J|⟨g,zh,H,rfl,hb,u,rest⟩;simp_all;exact .inr ⟨g,zh,H,rfl,hb,(E.block g (z6.1 u).1).trans u,rest⟩
theorem Ay.aC(h:Ay w za v xs)(u:xs.length<=Bh)(E:∀x∈xs,-9223372036854775808<=x/\x<=Bh):∃A n c,v=.slice A n c/\AB w A n xs:=by have H:=h;rcases h.2 with⟨rfl,J⟩|⟨g,zh,T,rfl,hb,U,_⟩;have:xs=[]:=z9 J;grind[AB.nil];refine⟨_,_,_,rfl,rfl,u,E,λ_=>⟨_,rfl,λj x O=>?_⟩⟩;exact H.cells (g:=g) rfl j _ (by rw[yd,O];rfl)
theorem Ay.J(h:Ay w za v xs):∀k,v.ownBlock=some k->za<=k/\k<w:=xy h
end
def JH{P}(w za t E e i size)(u:P.underlying t=some (.slice e))(hi:P.info? e=some i) (v n xs)(H:w.ownsRow za e size v n xs)(c):(Builtin.append_ #[t,t] E #[v,.slice none 0 c]).run P w=.ok v w:=by rcases H.2 with⟨rfl,rfl⟩|⟨g,zh,O,rfl,_,_,J,_⟩;simp[Builtin.append_,run_underlying u,sizeOf,typeInfo,hi,Builtin.lenOf,Builtin.firstCells];simp[Builtin.append_,run_underlying u,sizeOf,typeInfo,hi,Builtin.lenOf,Builtin.firstCells,J,storeCells]
def Jp(w O za v xs)(U:Ay w za v xs)(A m c J)(V:AB w A m J) (hb:xs.length+m<=10000000000000)(Z:za<=w.heap.size):∃E w',(Builtin.append_ #[86,86] O #[v,.slice A m c]).run prog w=.ok E w'/\Ay w' za E (xs++J)/\w.grownBy w' v.ownBlock/\(E.ownBlock=v.ownBlock\/E.ownBlock=some w.heap.size):=by
 obtain⟨i,hi,aa,ab,ac⟩:=info_parts Jr;have ad:=V.1;have key:∀H,(∀j u,(J.map (Value.int .i64))[j]? =some u->w.cell? (H.add j)=some u)->∃E w',(Builtin.append_ #[86,86] O #[v,.slice (some H) m c]).run prog w=.ok E w'/\Ay w' za E (xs++J)/\w.grownBy w' v.ownBlock/\(E.ownBlock=v.ownBlock\/E.ownBlock=some w.heap.size):=λH ae=>by obtain⟨E,w',hrun,ag,ah,_,aj⟩:=run_append_own_at (P:=prog) w za 86 O 3 i () 1 8 underlying86 hi aa ab ac rfl Ax v xs.length _ U H m c (J.map (Value.int .i64)) (by simp_all) ae (ints_oneCell _ _) (by grind[maxLen]) Ad Z;grind[Ay,List.length_append]
 rcases xe m with T|T;subst T;have af:=z9 ad;subst af;cases A with
 |none=>exact⟨v,w,JH w za 86 O 3 i 1 underlying86 hi v xs.length _ U c,by simp_all,aay w _,.inl rfl⟩
 |some H=>simp_all
 obtain⟨H,rfl,ak⟩:=V.2.2.2 T;simp_all
def Kg(w){zf rest o a Q}(H:o.guard=none)(s x) (J:o.op=.call {callee:=.builtin .append,args:=#[s,x],argTypes:=#[86,86]}) (za v xs)(O:a.eval s=v)(T:Ay w za v xs)(A m c E)(U:a.eval x=.slice A m c)(V:AB w A m E) (hb:xs.length+m<=10000000000000)(Z:za<=w.heap.size) (h:∀u w',Ay w' za u (xs++E)->w.grownBy w' v.ownBlock->(u.ownBlock=v.ownBlock\/u.ownBlock=some w.heap.size)->wpList prog zf Q rest (a.put o.dst u) w'):wpList prog zf Q (o::rest) a w:=by refine x5 H λK aa=>?_;obtain⟨u,w',hrun,ab,ac,ad⟩:=Jp w o.type za v xs T A m c E V hb Z;unfold Oper.wp execOp;simp only[J,resolve,invoke,builtin,aac,Sem.run_pure,Result.andThen_ok,aa8,xn,abd,O,U,hrun];exact aa _ _ (h u w' ab ac ad)
def BW(w){zf rest o a Q}(H:o.guard=none)(s x) (J:o.op=.call {callee:=.builtin .append,args:=#[s,x],argTypes:=#[86,86]}) (za v xs)(O:a.eval s=v)(T:Ay w za v xs)(u c y)(U:a.eval x=.slice (some u) 1 c)(aa:w.cell? u=some (.int .i64 y)) (ab:-9223372036854775808<=y/\y<=9223372036854775807)(hb:xs.length+1<=10000000000000)(V:za<=w.heap.size) (h:∀E w',Ay w' za E (xs++[y])->w.grownBy w' v.ownBlock->(E.ownBlock=v.ownBlock\/E.ownBlock=some w.heap.size)->wpList prog zf Q rest (a.put o.dst E) w'):wpList prog zf Q (o::rest) a w:=Kg w H s x J za v xs O T (some u) 1 c [y] U ⟨rfl,by decide,by simp_all,λ_=>⟨u,rfl,λj x ac=>by grind[Addr.add]⟩⟩ hb V h
def BD(w:Aj)(u E):(w.alloc (.cells #[u] E)).cell? w=some u:=cell_of_row (w.alloc (.cells #[u] E)) w 0 #[u] E (0,0) (aaf w _)
def KV(w:Aj):Ay (w.alloc (.cells #[] 3)) w (.slice w 0 0) []:=⟨rfl,.inr ⟨w,0,#[],rfl,zs _,aaf w _,zs _,zx _,rfl,rfl⟩⟩
def Ve:Aw->Nat|.slice _ n _=>n|_=>0
def Ay.aL{w za v xs}(h:Ay w za v xs):Ve v=xs.length:=by rcases h.2 with⟨rfl,u⟩|⟨g,zh,E,rfl,_⟩;exact u.symm;rfl
def Ay.less{w a b v xs}(h:Ay w b v xs)(E:a<=b):Ay w a v xs:=by refine⟨h.1,?_⟩;rcases h.2 with H|⟨g,zh,u,rfl,hb,rest⟩;simp_all;exact .inr ⟨g,zh,u,rfl,Ad,rest⟩
def DA(a b:Aw):Prop:=a.ownBlock=none\/b.ownBlock=none\/a.ownBlock≠b.ownBlock
def DA.symm{a b}(h:DA a b):DA b a:=by rcases h with h|h|h;exact Or.inr (Or.inl h);exact Or.inl h;exact Or.inr (Or.inr (yb h))
def DA.kept{a b}(h:DA a b):a.ownBlock=none\/a.ownBlock≠b.ownBlock:=by rcases h with h|h|h;simp_all;grind;simp_all
def DA.grow{a a' b m}(h:DA a b)(u:a'.ownBlock=a.ownBlock\/a'.ownBlock=some m)(hb:∀k,b.ownBlock=some k->k<m):DA a' b:=by grind[DA]
def Ay.form{w za v xs}(h:Ay w za v xs):∃A n c,v=.slice A n c:=by rcases h.2 with⟨rfl,_⟩|⟨g,zh,u,rfl,_⟩<;>exact⟨_,_,_,rfl⟩
def Ay.aQ{w za v xs}(h:Ay w za v xs)(u:xs.length<=Bh)(E:∀x∈xs,-9223372036854775808<=x/\x<=Bh):∃A n c,v=.slice A n c/\AB w A n xs/\n<=c:=by have H:=h;rcases h.2 with⟨rfl,J⟩|⟨g,zh,U,rfl,hb,V,O,_⟩;have:xs=[]:=z9 J;subst this;exact⟨none,0,0,rfl,AB.nil w,zs _⟩;refine⟨_,_,_,rfl,⟨rfl,u,E,λ_=>⟨_,rfl,λj x T=>?_⟩⟩,O⟩;exact H.cells (g:=g) rfl j _ (by rw[yd,T];rfl)
def AB.one{w u n k xs x}(h:AB w (some u) n xs)(E:xs[k]? =some x):AB w (some (u.add k)) 1 [x]:=by have J:=(zl.1 E).1;obtain⟨_,e,O⟩:=h.2.2.2 (by have:=h.1;omega);cases e;refine⟨rfl,Ax,?_,λ_=>⟨_,rfl,λj y T=>?_⟩⟩;intro y H;rw[zy.1 H];exact h.2.2.1 _ (zm E);grind[List.getElem?_eq_some_iff,Addr.add_add]
def LC(A n c w):(binOp .eql 86 (.slice A n c) AI).run prog w=.ok A.isNone w:=by simp only[binOp];simp[run_equal_slice_nil w 86 3 A n c underlying86]
def GX(xs:An)(w:Aj)(e:Bz)(w':Aj):Prop:=∃v,e=.returned v/\Ay w' w v xs/\Ae w w'
def Fm(A n c xs w)(h:AB w A n xs)(ab:n<=1000000000000):AC 60 #[.slice A n c] w (GX xs w):=by
 cases A with
 |none=>
  have H:n=0:=by rcases xe n with e|e;exact e;obtain⟨u,e,_⟩:=h.2.2.2 e;cases e
  subst H;have J:=z9 h.1;subst J;have O:=λ(c:Nat)(W:Aj)=>LC none 0 c W;go_enter func60,ntmps60;go_wp2;go_ret;exact⟨_,rfl,Ay.nil _ _,Ae.refl _⟩
 |some u=>
  have O:=λ(W:Aj)=>LC (some u) n c W;go_enter func60,ntmps60;go_wp2_with(at_builtin;refine Kg _ rfl (.tmp 5) (.tmp 6) rfl w _ [] rfl (KV w) _ _ _ xs rfl (h.ext ((Ae.refl _).alloc _)) (by grind) AG ?_;intro ac T U E V;clear V;have Z:Hid (Ae w T):=Ae.grown ((Ae.refl _).alloc _) E (λj aa=>by have:=(KV w).J j aa;omega);clear E)
  go_ret;exact⟨_,rfl,by simpa using U,Z⟩
def YK:(prog.info? 4).map (λi=>(i.zero,i.size,i.bytes))=some (some (.bool false),1,1):=by kernel_rfl
def Gw(w:Aj)(za:Nat)(v:Aw)(xs:List Bool):Prop:=w.ownsRow za 4 1 v xs.length (xs.map (Value.bool))
section
variable{w w'}{za}{v}{xs}
theorem Gw.nil(w za):Gw w za AI []:=ab0 _ _ _ _
theorem Gw.alloc(h:Gw w za v xs)(o):Gw (w.alloc o) za v xs:=acu h o
theorem Gw.drewN(h:Gw w za v xs)(n):Gw (w.drewN n) za v xs:=h
theorem Gw.kept{ze}(h:Gw w za v xs)(u:w.grownBy w' ze)(E:v.ownBlock=none\/v.ownBlock≠ze):Gw w' za v xs:=aan h u E
theorem Gw.ext(h:Gw w za v xs)(E:Ae w w'):Gw w' za v xs:=by refine⟨h.1,?_⟩;rcases h.2 with J|⟨g,zh,H,rfl,hb,u,rest⟩;simp_all;exact .inr ⟨g,zh,H,rfl,hb,(E.block g (z6.1 u).1).trans u,rest⟩
theorem Gw.aC(h:Gw w za v xs)(u:xs.length<=Bh):∃A n c,v=.slice A n c/\Bw w A n xs:=by have E:=h;rcases h.2 with⟨rfl,H⟩|⟨g,zh,O,rfl,hb,T,_⟩;have:xs=[]:=z9 H;grind[Bw.nil];refine⟨_,_,_,rfl,rfl,u,λ_=>⟨_,rfl,λj x J=>?_⟩⟩;exact E.cells (g:=g) rfl j _ (by rw[yd,J];rfl)
theorem Gw.J(h:Gw w za v xs):∀k,v.ownBlock=some k->za<=k/\k<w:=xy h
end
structure Au(F:Nat->Prop)(w w':Aj):Prop where
 os:w'.os=w.os
 tape:w'.tape=w.tape
 output:w'.output=w.output
 size:w.heap.size<=w'.heap.size
 block:∀b,b<w.heap.size->¬F b->w'.heap[b]? =w.heap[b]?
section
variable{F G}{a b c w w'}
theorem Au.refl(F w):Au F w w:=⟨rfl,rfl,rfl,zs _,λ_ _ _=>rfl⟩
theorem Ae.stay(h:Ae w w'):Au F w w':=⟨Below.os h,Below.tape h,Below.output h,Below.size h,λb hb _=>Below.block h b hb⟩
theorem Au.ext(h:Au F w w')(hF:∀b,F b->w<=b):Ae w w':=⟨h.os,h.tape,h.output,h.size,λb hb=>h.block b hb (λu=>by have:=hF b u;omega)⟩
theorem Au.trans(h:Au F a b)(k:Au G b c)(H:∀j,j<a.heap.size->G j->F j):Au F a c:=⟨k.os.trans h.os,k.tape.trans h.tape,k.output.trans h.output,z7 h.size k.size,λj u E=>(k.block j (x6 u h.size) (λJ=>E (H j u J))).trans (h.block j u E)⟩
theorem Au.aR(h:Au F a b)(k:Ae b c):Au F a c:=h.trans (Ae.stay (F:=λ_=>False) k) (λ_ _ u=>u.elim)
theorem Au.ay(h:Ae a b)(k:Au F b c):Au F a c:=(Ae.stay h).trans k (λ_ _ u=>u)
theorem Au.mono(h:Au F w w')(E:∀j,j<w.heap.size->F j->G j):Au G w w':=⟨h.os,h.tape,h.output,h.size,λj u H=>h.block j u (λJ=>H (E j u J))⟩
theorem Au.drewN(h:Au F a w)(n):Au F a (w.drewN n):=⟨h.os,h.tape,h.output,h.size,h.block⟩
theorem Au.drew(h:Au F a w):Au F a w.drew:=⟨h.os,h.tape,h.output,h.size,h.block⟩
theorem Au.alloc(h:Au F a w)(o):Au F a (w.alloc o):=h.aR ((Ae.refl w).alloc o)
theorem Au.setCell(h:Au F a w){p}(J:F p.block\/a.heap.size<=p.block)(u):Au F a (w.setCell p u):=⟨h.os,h.tape,h.output,by rw[xf];exact h.size,λj E H=>by rw[yt w p u j (λe=>by grind)];exact h.block j E H⟩
theorem Au.grown{ze}(h:Au F a w)(u:w.grownBy w' ze)(J:∀k,ze=some k->F k\/a<=k):Au F a w':=⟨u.os.trans h.os,u.tape.trans h.tape,u.output.trans h.output,z7 h.size u.size,λj E H=>by rw[u.block j (x6 E h.size) (λe=>by grind)];exact h.block j E H⟩
theorem Au.cell(h:Au F w w'){p v}(u:w.cell? p=some v)(hF:¬F p.block):w'.cell? p=some v:=(World.cell?_of_block (h.block p.block (xu w p u) hF)).trans u
theorem Au.J{g t u}(h:Au F w w')(hb:Aq w g t u)(hF:¬F g):Aq w' g t u:=(h.block g hb.lt hF).trans hb
theorem block_add(u:Addr)(j):(u.add j).block=u.block:=by unfold Addr.add;split<;>rfl
def Fa(F:Nat->Prop)(A:AD):Prop:=∀u,A=some u->¬F u.block
theorem Fa.none_:Fa F none:=λ_ h=>by cases h
theorem Fa.mono{A}(h:Fa F A)(u:∀j,G j->F j):Fa G A:=λE e H=>h E e (u _ H)
theorem AB.stay{A n xs}(h:AB w A n xs)(E:Au F w w')(H:Fa F A):AB w' A n xs:=⟨h.1,h.2.1,h.2.2.1,λJ=>let⟨u,e,O⟩:=h.2.2.2 J;⟨u,e,λj x T=>E.cell (O j x T) (by rw[block_add];exact H u e)⟩⟩
theorem Ay.stay{za v xs}(h:Ay w za v xs)(E:Au F w w')(H:∀k,v.ownBlock=some k->¬F k):Ay w' za v xs:=by refine⟨h.1,?_⟩;rcases h.2 with O|⟨g,zh,J,rfl,hb,u,rest⟩;simp_all;exact .inr ⟨g,zh,J,rfl,hb,(E.block g (z6.1 u).1 (H g rfl)).trans u,rest⟩
theorem Ay.setCell{za v xs}(h:Ay w za v xs){p}(E:∀k,v.ownBlock=some k->k≠p.block)(u):Ay (w.setCell p u) za v xs:=h.stay (F:=λb=>b=p.block) ((Au.refl (λb=>b=p.block) w).setCell (Or.inl rfl) u) (λk e=>E k e)
theorem Aq.aU{g u t E H J}(h:Aq w g t H)(O:Aq w u E J)(T:t≠E):g≠u:=by grind[Aq]
theorem Ay.ai{za g v xs t u}(h:Ay w za v xs)(E:Aq w g t u)(H:3≠t):v.ownBlock≠some g:=by
 rcases h.2 with⟨rfl,_⟩|⟨J,zh,T,rfl,_,O,_⟩;simp[Value.ownBlock];intro U;have:J=g:=by grind[Value.ownBlock]
 subst this;exact Aq.aU (t:=3) O E H rfl
theorem Aq.grown{ze g t u}(h:Aq w g t u)(hb:w.grownBy w' ze)(E:some g≠ze):Aq w' g t u:=(hb.block g h.lt E).trans h
end
structure LF(t e)(z)(size bytes):Prop where
 cX:prog.underlying t=some (.slice e)
 inf:(prog.info? e).map (λi=>(i.zero,i.size,i.bytes))=some (some z,size,bytes)
 e0:z.cells.size=size
 pos:0<size
 le:bytes<=100
def BA(w:Aj)(A:AD)(n size:Nat)(us:List Aw):Prop:=us.length=n*size/\n<=Bh/\(0<n->∃E,A=some E/\∀j u,us[j]? =some u->w.cell? (E.add j)=some u)
section
variable{w w'}{A}{n size}{us}{F}
theorem BA.ext(h:BA w A n size us)(E:Ae w w'):BA w' A n size us:=⟨h.1,h.2.1,λH=>let⟨J,e,O⟩:=h.2.2 H;⟨J,e,λj u T=>E.cell (O j u T)⟩⟩
theorem BA.stay(h:BA w A n size us)(H:Au F w w')(J:Fa F A):BA w' A n size us:=⟨h.1,h.2.1,λO=>let⟨E,e,T⟩:=h.2.2 O;⟨E,e,λj u U=>H.cell (T j u U) (by rw[block_add];exact J E e)⟩⟩
theorem BA.nil(w size):BA w none 0 size []:=⟨AG,Ax,λh=>absurd h Ad⟩
theorem BA.one{E}(H:∀j u,us[j]? =some u->w.cell? (E.add j)=some u)(J:us.length=size):BA w (some E) 1 size us:=⟨Ad,Ax,λ_=>⟨E,rfl,H⟩⟩
end
def AP(w:Aj)(za:Nat)(e:TypeId)(size:Nat)(v:Aw)(n:Nat)(us:List Aw):Prop:=w.ownsRow za e size v n us
section
variable{w w'}{za size n}{e}{v}{us}{F}
theorem AP.nil(w za e size):AP w za e size AI 0 []:=ab0 _ _ _ _
theorem AP.alloc(h:AP w za e size v n us)(o):AP (w.alloc o) za e size v n us:=acu h o
theorem AP.drewN(h:AP w za e size v n us)(k):AP (w.drewN k) za e size v n us:=h
theorem AP.kept{ze}(h:AP w za e size v n us)(u:w.grownBy w' ze)(E:v.ownBlock=none\/v.ownBlock≠ze):AP w' za e size v n us:=aan h u E
theorem AP.stay(h:AP w za e size v n us)(E:Au F w w')(H:∀k,v.ownBlock=some k->¬F k):AP w' za e size v n us:=by refine⟨h.1,?_⟩;rcases h.2 with O|⟨g,zh,J,rfl,hb,u,rest⟩;simp_all;exact .inr ⟨g,zh,J,rfl,hb,(E.block g (z6.1 u).1 (H g rfl)).trans u,rest⟩
theorem AP.ext(h:AP w za e size v n us)(u:Ae w w'):AP w' za e size v n us:=h.stay (F:=λ_=>False) u.stay (λ_ _ E=>E)
theorem AP.J(h:AP w za e size v n us):∀k,v.ownBlock=some k->za<=k/\k<w:=xy h
theorem AP.less{b}(h:AP w za e size v n us)(hb:b<=za):AP w b e size v n us:=by refine⟨h.1,?_⟩;rcases h.2 with E|⟨g,zh,u,rfl,H,rest⟩;simp_all;exact .inr ⟨g,zh,u,rfl,Ad,rest⟩
theorem AP.aC(h:AP w za e size v n us)(E:n<=Bh):∃A c,v=.slice A n c/\BA w A n size us/\n<=c:=by have H:=h;rcases h.2 with⟨rfl,rfl⟩|⟨g,zh,T,rfl,hb,U,J,_⟩;have:us=[]:=z9 (by have:=h.1;omega);subst this;exact⟨none,0,rfl,BA.nil w size,zs _⟩;exact⟨_,_,rfl,⟨h.1,E,λ_=>⟨_,rfl,λj u O=>H.cells (g:=g) rfl j _ O⟩⟩,J⟩
end
def D2{H:Type}{enc:H->List Aw}{s}(u:∀r,(enc r).length=s):∀{zc:List H}{i}{r}{k},zc[i]? =some r->k<s->(zc.flatMap enc)[i*s+k]? =(enc r)[k]?
 |[],i,r,k,h,_=>by simp_all
 |x::zc,0,r,k,h,E=>by simp at h;subst h;rw[aa2,Nat.zero_mul,xv,yh (by rw[u];exact E)]
 |x::zc,i+1,r,k,h,E=>by
  have J:zc[i]? =some r:=by simpa using h
  rw[aa2,yi (by rw[u,adi];omega),u];have e:(i+1)*s+k-s=i*s+k:=by rw[adi];omega
  rw[e];exact D2 u J E
def BZ{u:Type}{enc:u->List Aw}{s}(E:∀r,(enc r).length=s)(zc:List u):(zc.flatMap enc).length=zc.length*s:=by
 induction zc with
 |nil=>simp
 |cons x zc H=>rw[aa2,zu,E,H,List.length_cons,adi,ac1]
def OA{t e z size bytes}(E:LF t e z size bytes)(w T za v n us)(Z:AP w za e size v n us)(A m c J)(U:BA w A m size J) (aa:∀u∈J,u.oneCell'=true)(hb:n+m<=1000000000000)(ab:za<=w.heap.size):∃H w',(Builtin.append_ #[t,t] T #[v,.slice A m c]).run prog w=.ok H w'/\AP w' za e size H (n+m) (us++J)/\w.grownBy w' v.ownBlock/\(H.ownBlock=v.ownBlock\/H.ownBlock=some w.heap.size):=by
 obtain⟨i,hi,ac,ad,ae⟩:=info_parts E.inf;have key:∀O,(∀j u,J[j]? =some u->w.cell? (O.add j)=some u)->∃H w',(Builtin.append_ #[t,t] T #[v,.slice (some O) m c]).run prog w=.ok H w'/\AP w' za e size H (n+m) (us++J)/\w.grownBy w' v.ownBlock/\(H.ownBlock=v.ownBlock\/H.ownBlock=some w):=λO af=>by obtain⟨H,w',hrun,ag,ah,_,aj⟩:=run_append_own_at (P:=prog) w za t T e i z size bytes E.cX hi ac ad ae E.e0 E.pos v n us Z O m c J U.1 af aa (by grind[maxLen]) (by have:=ym hb E.le;omega) ab;exact⟨H,w',hrun,ag,ah,aj⟩
 rcases xe m with V|V;subst V;have ak:J=[]:=z9 (by have:=U.1;omega);subst ak;cases A with
 |none=>exact⟨v,w,JH w za t T e i size E.cX hi v n us Z c,by simp_all,aay w _,.inl rfl⟩
 |some O=>simp_all
 obtain⟨O,rfl,al⟩:=U.2.2 V;simp_all
def D6{t e z size bytes}(E:LF t e z size bytes)(w){zf rest o a Q}(O:o.guard=none)(s x) (T:o.op=.call {callee:=.builtin .append,args:=#[s,x],argTypes:=#[t,t]}) (za v n us)(U:a.eval s=v)(V:AP w za e size v n us)(A m c J)(Z:a.eval x=.slice A m c)(aa:BA w A m size J) (ab:∀u∈J,u.oneCell'=true)(hb:n+m<=1000000000000)(ac:za<=w.heap.size) (h:∀H w',AP w' za e size H (n+m) (us++J)->w.grownBy w' v.ownBlock->(H.ownBlock=v.ownBlock\/H.ownBlock=some w.heap.size)->wpList prog zf Q rest (a.put o.dst H) w'):wpList prog zf Q (o::rest) a w:=by refine x5 O λK ad=>?_;obtain⟨H,w',hrun,ae,af,ag⟩:=OA E w o.type za v n us V A m c J aa ab hb ac;unfold Oper.wp execOp;simp only[T,resolve,invoke,builtin,aac,Sem.run_pure,Result.andThen_ok,aa8,xn,abd,U,Z,hrun];exact ad _ _ (h H w' ae af ag)
def OE{P}(g off t):∀vs i u w,Aq w g t u->off+i+vs.length<=u.size->(∀v∈vs,v.oneCell'=true)->∃w' H,(storeCells ⟨g,off,none⟩ vs i).run P w=.ok () w'/\Aq w' g t H/\w.grownBy w' (some g)/\H.size=u.size/\∀j,H[j]? =if off+i<=j/\j<off+i+vs.length then vs[j-(off+i)]? else u[j]?
 |[],i,u,w,J,_,_=>⟨w,u,rfl,J,aay w _,rfl,λj=>by rw[zo (by rw[List.length_nil];omega)]⟩
 |v::rest,i,u,w,J,ad,U=>by
  have hi:off+i<u.size:=by grind
  have Z:(⟨g,off,none⟩:Addr).add i=⟨g,off+i,none⟩:=by unfold Addr.add;split<;>simp_all
  have aa:w.cell? ⟨g,off+i,none⟩=some u[off+i]:=by rw[J.cell];simp_all
  have ae:(store ((⟨g,off,none⟩:Addr).add i) v).run P w=.ok () (w.setCell ⟨g,off+i,none⟩ v):=by rw[Z,run_store P w _ v _ (U v AG),aa];simp[J.frozen]
  obtain⟨w',H,hrun,hb,O,af,ab⟩:=OE (P:=P) g off t rest (i+1) _ _ (J.ad (off+i) v) (by grind) (λx ag=>U x (by simp_all));refine⟨w',H,?_,hb,?_,by simp_all,λj=>?_⟩;grind[storeCells,Sem.run_bind,Result.andThen_ok];have E:w.grownBy (w.setCell ⟨g,off+i,none⟩ v) (some g):=⟨rfl,rfl,rfl,by rw[xf];omega,λk _ T=>yt w _ v k (λe=>T (by rw[e]))⟩;exact⟨O.os.trans E.os,O.tape.trans E.tape,O.output.trans E.output,z7 E.size O.size,λk T V=>(O.block k (x6 T E.size) V).trans (E.block k T V)⟩;rw[ab j];by_cases ac:off+(i+1)<=j/\j<off+(i+1)+rest.length;rw[zq ac,zq (by grind)];have e:j-(off+i)=(j-(off+(i+1)))+1:=Ad;rw[e,List.getElem?_cons_succ];grind
def KO{zf rest o a w Q}(J:o.guard=none)(H x y)(O:o.op=.store H x y) (g off)(T:a.eval x=.pointer (some ⟨g,off,none⟩))(cells)(U:a.eval y=.agg cells)(t u)(V:Aq w g t u)(ah:off+cells.size<=u.size) (hi:(prog.info? H).map (·.size)=some cells.size)(Z:cells.all (·.oneCell')=true) (h:∀w' E,Aq w' g t E->w.grownBy w' (some g)->E.size=u.size->(∀j,E[j]? =if off<=j/\j<off+cells.size then cells[j-off]? else u[j]?)->wpList prog zf Q rest (a.put o.dst undef) w'):wpList prog zf Q (o::rest) a w:=x5 J λ_ aa=>by
 obtain⟨w',E,hrun,hb,ab,ac,ad⟩:=OE (P:=prog) g off t cells.toList 0 u w V Ad (λv aj=>(aa9.1 Z) v (by simp_all));have ae:(storeVar H ⟨g,off,none⟩ (.agg cells)).run prog w=.ok () w':=by
  cases af:prog.info? H with
  |none=>simp_all
  |some i=>
   have ag:cells.size=i.size:=by simp_all
   simp[storeVar,sizeOf,typeInfo,af,Value.cells,ag,hrun]
 unfold Oper.wp execOp;simp only[O,T,U,Instr.storeAt,Instr.sureAddr,aac,Sem.run_pure,Result.andThen_ok,ae];exact aa _ _ (h w' E hb ab ac (λj=>by have:=ad j;simp_all))
def Xv:(prog.info? 86).map (λi=>(i.zero,i.size,i.bytes))=some (some (.slice none 0 0),1,24):=by kernel_rfl
def FF(w0 w:Aj)(za:Nat)(v:Aw)(L:AT):Prop:=∃vs,w.ownsRow za 86 1 v vs.length vs/\vs.length=L.length/\∀(j:Nat)(xs),L[j]? =some xs->∃A n c,vs[j]? =some (.slice A n c)/\AB w0 A n xs
section
variable{w0 w w'}{za}{v}{L}
theorem FF.nil(w0 w za):FF w0 w za AI []:=⟨[],ab0 _ _ _ _,rfl,λ_ _ h=>by simp_all⟩
theorem FF.alloc(h:FF w0 w za v L)(o):FF w0 (w.alloc o) za v L:=let⟨vs,a,b,c⟩:=h;⟨vs,acu a o,b,c⟩
theorem FF.kept{ze}(h:FF w0 w za v L)(u:w.grownBy w' ze)(E:v.ownBlock=none\/v.ownBlock≠ze):FF w0 w' za v L:=let⟨vs,a,b,c⟩:=h;⟨vs,aan a u E,b,c⟩
theorem FF.ext(h:FF w0 w za v L)(E:Ae w w'):FF w0 w' za v L:=by obtain⟨vs,a,b,c⟩:=h;refine⟨vs,⟨a.1,?_⟩,b,c⟩;rcases a.2 with J|⟨g,zh,H,rfl,hb,u,rest⟩;simp_all;exact .inr ⟨g,zh,H,rfl,hb,(E.block g (z6.1 u).1).trans u,rest⟩
theorem FF.J(h:FF w0 w za v L):∀k,v.ownBlock=some k->za<=k/\k<w:=let⟨_,a,_,_⟩:=h;xy a
theorem FF.aC(h:FF w0 w za v L)(H:Ae w0 w)(Z:L.length<=Bh):∃A n c,v=.slice A n c/\Bf w A n L/\n<=c:=by obtain⟨vs,u,J,O⟩:=h;rcases u.2 with⟨rfl,E⟩|⟨g,zh,aa,rfl,hb,ab,T,_⟩;have:L=[]:=z9 Ad;subst this;exact⟨none,0,0,rfl,Bf.nil w,zs _⟩;refine⟨_,_,_,rfl,⟨J.symm,Ad,λ_=>⟨_,rfl,λj xs U=>?_⟩⟩,T⟩;obtain⟨A,n,c,E,V⟩:=O j xs U;exact⟨A,n,c,u.cells (g:=g) rfl j _ E,V.ext H⟩
end
def AeS(w0 w){zf rest o a Q}(O:o.guard=none)(s x) (T:o.op=.call {callee:=.builtin .append,args:=#[s,x],argTypes:=#[32,32]}) (za v L)(U:a.eval s=v)(V:FF w0 w za v L)(H c A n c' y)(Z:a.eval x=.slice (some H) 1 c)(am:w.cell? H=some (.slice A n c')) (an:AB w0 A n y)(hb:L.length+1<=1000000000000)(aa:za<=w.heap.size) (h:∀E w',FF w0 w' za E (L++[y])->w.grownBy w' v.ownBlock->(E.ownBlock=v.ownBlock\/E.ownBlock=some w.heap.size)->wpList prog zf Q rest (a.put o.dst E) w'):wpList prog zf Q (o::rest) a w:=by
 obtain⟨i,hi,ab,ac,ad⟩:=info_parts Xv;obtain⟨vs,ae,ao,aq⟩:=V;refine x5 O λK af=>?_;obtain⟨E,w',hrun,ag,ah,_,aj⟩:=run_append_own_at (P:=prog) w za 32 o.type 86 i AI 1 24 underlying32 hi ab ac ad rfl Ax v vs.length _ ae H 1 c [.slice A n c'] AG (λj u J=>by
  cases j with
  |zero=>simp at J;subst J;grind[Addr.add]
  |succ j=>grind) (by intro u ak;rw[zy.1 ak];rfl) (by grind[maxLen]) Ad aa
 unfold Oper.wp execOp;simp only[T,resolve,invoke,builtin,aac,Sem.run_pure,Result.andThen_ok,aa8,xn,abd,U,Z,hrun];refine af _ _ (h E w' ⟨vs++[.slice A n c'],?_,by grind,?_⟩ ah aj);rw[zu];exact ag;grind
def AB.ar{w A n xs}(h:AB w A n xs){p}(u)(O:∀x,w.cell? p≠some (.int .i64 x)):AB (w.setCell p u) A n xs:=by refine⟨h.1,h.2.1,h.2.2.1,λT=>?_⟩;obtain⟨H,e,U⟩:=h.2.2.2 T;refine⟨H,e,λj x V=>?_⟩;have E:=U j x V;by_cases J:p=H.add j;rw[<-J]at E;exact absurd E (O x);rw[ab5 (h:=J)];exact E
