import Derived.Test.YtdmempceikifeaaGreatA02
import Derived.Orders
set_option maxRecDepth 100000
set_option maxHeartbeats 16000000
set_option linter.all false
namespace Go.Proofs.YtdmempceikifeaaGreat
open Go.RowKit Tryz
def QI(zf:Array Oper)(u:Nat):Bool:=(List.range zf.size).all λi=>match zf[i]? with
 |none=>true
 |some o=>(o.after.all λe=>!Region.binds .any e||decide (e.on<i))&&(match o.dst with|none=>true|some t=>decide (t<u))&&(List.range zf.size).all λj=>match zf[j]? with
   |none=>true
   |some p=>match p.dst with
    |none=>true
    |some t=>(!(o.looksAt zf).contains t||o.after.any λe=>Region.binds .any e&&e.on==j)&&(decide (i=j)||o.dst !=some t)
def Jy{zf E i}{o:Oper}(h:QI zf E=true)(hi:zf[i]? =some o):(∀e∈o.after,Region.binds .any e=true->e.on<i)/\(∀t,o.dst=some t->t<E)/\(∀j p t,zf[j]? =some p->p.dst=some t->(t∈o.looksAt zf->∃e∈o.after,Region.binds .any e=true/\e.on=j)/\(o.dst=some t->i=j)):=by
 unfold QI at h;rw[yn]at h;have H:=h i (zv.2 (z6.1 hi).1);simp only[hi,z4]at H;obtain⟨⟨V,J⟩,O⟩:=H;refine⟨λe Z hb=>?_,λt aa=>?_,λj p t T ab=>?_⟩;have:=(aa9.1 V) e Z;simpa[hb]using this;rw[aa]at J;simpa using J;rw[yn]at O;have:=O j (zv.2 (z6.1 T).1);simp only[T,ab,z4]at this;obtain⟨u,U⟩:=this;refine⟨λac=>?_,λad=>?_⟩;have ae:(o.looksAt zf).contains t=true:=by simpa using ac
 rw[ae]at u;simp only[Bool.not_true,aar]at u;rw[ab1]at u;obtain⟨x,af,hb⟩:=u;simp only[z4,x3]at hb;exact⟨_,ab2 af,hb.1,hb.2⟩;rw[ad]at U;simpa using U
def KH(l:Array Bool):Nat:=l.toList.count true
def Pr{l i}(h:l.getD i true=false):KH (l.setIfInBounds i true)=KH l+1:=by
 have hi:i<l.size:=by rcases aab i l.size with E|E;exact E;simp[Array.getD,Nat.not_lt.2 E]at h
 have u:l[i]=false:=by simpa[Array.getD,hi]using h
 unfold KH;obtain⟨l⟩:=l;simp only[List.setIfInBounds_toArray]at *;simp only[List.size_toArray,List.getElem_toArray]at hi u;clear h;induction l generalizing i with
 |nil=>simp at hi
 |cons b l H=>
  cases i with
  |zero=>simp at u;subst u;simp
  |succ i=> simp only[List.length_cons]at hi;simp only[List.getElem_cons_succ]at u;have:=H (i:=i) Ca u;simp only[List.set_cons_succ,List.count_cons];omega
def TZ{l}(h:KH l=l.size)(i)(hi:i<l.size):l.getD i false=true:=by obtain⟨l⟩:=l;unfold KH at h;simp only[List.size_toArray]at h hi;have:=List.count_eq_length.1 h;simp[Array.getD,hi,<-(this l[i] (aak hi))]
section
variable{zf:Array Oper}{Q:Exit->Act->World->Prop}{S:Nat->Value->World->Prop}{w0:World}{a0:Act}
def Ajp(zf:Array Oper)(S:Nat->Aw->Aj->Prop)(w0:Aj)(a0:Act)(u:Array Bool)(a:Act)(w:Aj):Prop:=Ae w0 w/\a.defers=a0.defers/\a.tmps.size=a0.tmps.size/\∀t,(∀j o,zf[j]? =some o->o.dst=some t->u.getD j false=true)->S t (a.tmps.getD t undef) w
theorem De{a:Act}{d t v}(u:d<a.tmps.size):(a.put (some d) v).tmps.getD t undef=if t=d then v else a.tmps.getD t undef:=by show(a.tmps.setIfInBounds d v).getD t undef=_;by_cases e:t=d;subst e;simp[Array.getD,u];rw[zo e];simp only[Array.getD];by_cases h:t<a.tmps.size;simp[h,yb e];simp[h]
inductive Spec
 |val(v:Aw)
 |form(v:Int)(L:AT)
 |ints(xs:An)
 |bools(xs:List Bool)
 |rows(L:AT)
 |any(p:Aw->Aj->Prop)(hp:∀v w w',p v w->Ae w w'->p v w')
def Spec.holds:Spec->Aw->Aj->Prop
 |.val u,v,_=>v=u
 |.form x L,v,w=>∃A n c,v=.agg #[x,.slice A n c]/\Bf w A n L
 |.ints xs,v,w=>∃A n c,v=.slice A n c/\AB w A n xs
 |.bools xs,v,w=>∃A n c,v=.slice A n c/\Bw w A n xs
 |.rows L,v,w=>∃A n c,v=.slice A n c/\Bf w A n L/\n<=c
 |.any p _,v,w=>p v w
theorem Spec.ext{s:Spec}{v w w'}(h:s.holds v w)(J:Ae w w'):s.holds v w':=by
 cases s with
 |val u=>exact h
 |form x L=>obtain⟨A,n,c,E,H⟩:=h;exact⟨A,n,c,E,H.ext J⟩
 |ints xs=>obtain⟨A,n,c,E,H⟩:=h;exact⟨A,n,c,E,H.ext J⟩
 |bools xs=>obtain⟨A,n,c,E,H⟩:=h;exact⟨A,n,c,E,H.ext J⟩
 |rows L=>obtain⟨A,n,c,E,H,O⟩:=h;exact⟨A,n,c,E,H.ext J,O⟩
 |any p T=>exact T _ _ _ h J
def J1(za u:List (Nat×Spec))(t:Nat)(v:Aw)(w:Aj):Prop:=(∀s,za.lookup t=some s->s.holds v w)/\(∀s,u.lookup t=some s->s.holds v w)
theorem J1.ext{za E}(t v w w')(h:J1 za E t v w)(H:Ae w w'):J1 za E t v w':=⟨λs u=>Spec.ext (h.1 s u) H,λs u=>Spec.ext (h.2 s u) H⟩
theorem J1.start{za H}{l:List Oper}{a:Act}{w}(J:(H.all λp=>l.any λo=>o.dst==some p.1)=true)(hb:∀t s,za.lookup t=some s->s.holds (a.tmps.getD t undef) w):∀t,(∀o∈l,o.dst≠some t)->J1 za H t (a.tmps.getD t undef) w:=by
 intro t O;refine⟨λs u=>hb t s u,λs u=>?_⟩;exfalso;have T:∀{r:List (Nat×Spec)},r.lookup t=some s->∃p∈r,p.1=t:=by
  intro r;induction r with
  |nil=>intro h;cases h
  |cons p r U=> intro h;obtain⟨k,x⟩:=p;rw[List.lookup_cons]at h;by_cases e:t==k;exact⟨_,yx ..,(x3.1 e).symm⟩;obtain⟨p,E,V⟩:=U (by simpa[e]using h);exact⟨p,yj _ E,V⟩
 obtain⟨p,E,rfl⟩:=T u;have:=(yn.1 J) p E;rw[y7]at this;obtain⟨o,Z,aa⟩:=this;exact O o Z (by simpa using aa)
theorem XW{za:List (Nat×Spec)}{P:Nat->Spec->Prop}(h:∀p∈za,P p.1 p.2):∀t s,za.lookup t=some s->P t s:=by
 induction za with
 |nil=>intro t s u;cases u
 |cons p r E=>
  intro t s u;obtain⟨k,x⟩:=p;rw[List.lookup_cons]at u;by_cases e:t==k;have H:x=s:=by simpa[e]using u
  rw[x3.1 e,<-H];exact h _ (yx ..);exact E (λp J=>h p (yj _ J)) t s (by simpa[e]using u)
theorem AbD{t:Array Value}{k b}(h:t.getD k undef=.bool b):t[k]? =some (.bool b):=by by_cases u:k<t.size;simp[Array.getD,u]at h;simp[u,h];simp[Array.getD,u]at h;cases h
end
def Es{o a w v K Q}(hrun:(execOp a.eval o).run prog w=.ok (.value v) w)(u:K (a.put o.dst v) w):o.wp prog a w K Q:=by unfold Oper.wp;rw[hrun];exact u
def C4{za E t s v w}(H:za.lookup t=none)(J:E.lookup t=some s)(h:s.holds v w):J1 za E t v w:=⟨(λx u=>by rw[H]at u;cases u),(λx u=>by rw[J]at u;cases u;exact h)⟩
def Hi(zf:Array Oper)(n u:Nat):Bool:=(List.range (n+1)).all λi=>match zf[i]? with
 |none=>true
 |some o=>(o.after.all λe=>!Region.binds .any e||decide (e.on<i))&&(decide (i=n)||((match o.dst with|none=>true|some t=>decide (t<u))&&(List.range n).all λj=>match zf[j]? with
   |none=>true
   |some p=>match p.dst with
    |none=>true
    |some t=>(!(o.looksAt zf).contains t||o.after.any λe=>Region.binds .any e&&e.on==j)&&(decide (i=j)||o.dst !=some t)))
def DL{zf:Array Oper}{n O i:Nat}{o:Oper}(h:Hi zf n O=true)(aj:i<=n)(hi:zf[i]? =some o):(∀e∈o.after,Region.binds .any e=true->e.on<i)/\(i<n->(∀t,o.dst=some t->t<O)/\(∀j p t,j<n->zf[j]? =some p->p.dst=some t->(t∈o.looksAt zf->∃e∈o.after,Region.binds .any e=true/\e.on=j)/\(o.dst=some t->i=j))):=by
 unfold Hi at h;have T:=yn.1 h i (zv.2 Ad);simp only[hi,z4]at T;obtain⟨V,u⟩:=T;refine⟨λe Z hb=>?_,λak=>?_⟩;have:=aa9.1 V e Z;rw[hb]at this;simpa using this;rw[zn Ad,aar,z4]at u;obtain⟨aa,ab⟩:=u;refine⟨λt J=>by simpa[J]using aa,λj p t ac ad J=>?_⟩;have u:=yn.1 ab j (zv.2 ac);simp only[ad,J,z4]at u;obtain⟨H,U⟩:=u;refine⟨λae=>?_,λaf=>?_⟩;have ag:(o.looksAt zf).contains t=true:=by simpa using ae
 rw[ag]at H;simp only[Bool.not_true,aar]at H;rw[ab1]at H;obtain⟨x,ah,hb⟩:=H;simp only[z4,x3]at hb;exact⟨_,ab2 ah,hb.1,hb.2⟩;rw[af]at U;simpa using U
def MK(zf:Array Oper)(n:Nat):Bool:=(List.range n).all λi=>(List.range (n+1)).any λj=>decide (i<j)&&match zf[j]? with|some o=>o.after.any λe=>Region.binds .any e&&e.on==i|none=>false
def My{zf:Array Oper}{n i:Nat}(h:MK zf n=true)(hi:i<n):∃j o e,i<j/\j<=n/\zf[j]? =some o/\e∈o.after/\Region.binds .any e=true/\e.on=i:=by
 unfold MK at h;have O:=yn.1 h i (zv.2 hi);obtain⟨j,T,u⟩:=y7.1 O;rw[z4,z8]at u;rw[zv]at T;cases H:zf[j]? with
 |none=>rw[H]at u;cases u.2
 |some o=> rw[H]at u;have J:=u.2;dsimp only at J;rw[ab1]at J;obtain⟨x,U,hb⟩:=J;simp only[z4,x3]at hb;exact⟨j,o,_,u.1,Ad,H,ab2 U,hb.1,hb.2⟩
structure Ht(E:Aj->Aj->Prop):Prop where
 refl:∀w,E w w
 trans:∀{a b c},E a b->E b c->E a c
 drew:∀w,E w w.drew
 size:∀{a b:Aj},E a b->a.heap.size<=b.heap.size
def Dz:Ht Ae:=⟨Ae.refl,λh k=>h.trans k,λw=>(Ae.refl w).drew,λh=>Below.size h⟩
def Bt(a:Act):List Oper->List Aw->Act
 |o::l,v::vs=>Bt (a.put o.dst v) l vs
 |_,_=>a
def Dp:∀(l:List Oper)(vs:List Aw)(a:Act),(Bt a l vs).tmps.size=a.tmps.size
 |[],_,_=>rfl
 |_::_,[],_=>rfl
 |o::l,v::vs,a=>by rw[Bt,Dp l vs];unfold Act.put;split;exact yr ..;rfl
def Fk:∀(l:List Oper)(vs:List Aw)(a:Act),(Bt a l vs).defers=a.defers
 |[],_,_=>rfl
 |_::_,[],_=>rfl
 |o::l,v::vs,a=>by rw[Bt,Fk l vs];unfold Act.put;split<;>rfl
def C5{a:Act}{d:Option Tmp}{t:Nat}{v:Aw}(h:d≠some t):(a.put d v).tmps.getD t undef=a.tmps.getD t undef:=by
 cases d with
 |none=>rfl
 |some d=> show(a.tmps.setIfInBounds d v).getD t undef=_;have u:d≠t:=λe=>h (by rw[e]);rw[abu,abu,xd u]
def DF{t:Nat}:∀(l:List Oper)(vs:List Aw)(a:Act),(∀o∈l,o.dst≠some t)->(Bt a l vs).tmps.getD t undef=a.tmps.getD t undef
 |[],_,_,_=>rfl
 |_::_,[],_,_=>rfl
 |o::l,v::vs,a,h=>by rw[Bt,DF l vs _ (λp u=>h p (yj _ u)),C5 (h o (yx ..))]
def IW:∀(l m:List Oper)(vs u:List Aw)(a:Act),l.length=vs.length->Bt a (l++m) (vs++u)=Bt (Bt a l vs) m u
 |[],_,[],_,_,_=>rfl
 |[],_,_::_,_,_,h=>by simp at h
 |_::_,_,[],_,_,h=>by simp at h
 |o::l,m,v::vs,u,a,h=>by rw[List.cons_append,List.cons_append,Bt,Bt,IW l m vs u _ (by simpa using h)]
def FT{a b:Act}{o:Oper}{zf:Array Oper}(h:∀t∈o.looksAt zf,a.tmps.getD t undef=b.tmps.getD t undef):∀x∈o.op.operands,a.eval x=b.eval x:=by
 intro x u;cases x with
 |tmp t=>exact h t (yp _ (ac2.2 ⟨.tmp t,by simpa using u,rfl⟩))
 |_=>rfl
def No(zf:Array Oper)(u:Ck)(g:Nat):yielded zf u g=match(zf[g]?).bind (·.dst)with|some k=>(match u.getD k undef with|.bool b=>some b|_=>none)|none=>none:=by
 unfold yielded;cases(zf[g]?).bind (·.dst)with
 |none=>rfl
 |some k=>
  show(match u[k]? with|some (.bool b)=>some b|_=>none)=(match u.getD k undef with|.bool b=>some b|_=>none);cases e:u[k]? with
  |none=>simp[abu,e,undef]
  |some v=>simp only[abu,e,Option.getD_some];cases v<;>rfl
def EI{a b:Act}{o:Oper}{zf:Array Oper}(h:∀t∈o.looksAt zf,a.tmps.getD t undef=b.tmps.getD t undef):Region.wanted o (yielded zf a.tmps)=Region.wanted o (yielded zf b.tmps):=by
 unfold Region.wanted;cases u:o.guard with
 |none=>rfl
 |some p=>
  obtain⟨g,c⟩:=p;dsimp only;rw[No,No];cases e:(zf[g]?).bind (·.dst)with
  |none=>rfl
  |some k=> dsimp only;rw[h k (by unfold Oper.looksAt;rw[u];refine xk _ ?_;dsimp only;rw[e];simp)]
def Xr(zf:Array Oper)(L:Array Bool):Prop:=∀j o,zf[j]? =some o->L.getD j false=true->∀e∈o.after,Region.binds .any e=true->L.getD e.on false=true
section
variable{zf:Array Oper}{Q:Exit->Act->World->Prop}
theorem Xr.put{L:Array Bool}{i:Nat}{o:Oper}(h:Xr zf L)(T:zf[i]? =some o)(U:∀e∈o.after,Region.binds .any e=true->L.getD e.on false=true):Xr zf (L.setIfInBounds i true):=λj p u H e J hb=>by by_cases O:i=j;subst O;rw[T]at u;cases u;exact getD_set_true (U e J hb);rw[aaz false O]at H;exact getD_set_true (h j p u H e J hb)
theorem AgR(hb:∀i o,zf[i]? =some o->∀e∈o.after,Region.binds .any e=true->e.on<i){L:Array Bool}(U:L.size=zf.size)(V:Region.ready .any zf L=[]):∀j,j<zf.size->L.getD j false=true:=by
 intro j;induction j using Nat.strongRecOn with
 |_ j Z=>
  intro u;cases J:L.getD j false with
  |true=>rfl
  |false=> have H:zf[j]? =some zf[j]:=aau u;have:j∈Region.ready .any zf L:=ad0.2 ⟨by simp[Array.getD,U,u]at J⊢;exact J,_,H,λe O T=>Z _ (hb _ _ H e O T) (ac3 (hb _ _ H e O T) u)⟩;rw[V]at this;cases this
theorem AhB(X:Array Bool->Act->Aj->Prop)(hb:∀i o,zf[i]? =some o->∀e∈o.after,Region.binds .any e=true->e.on<i) (aa:∀i o L a w,zf[i]? =some o->L.size=zf.size->L.getD i false=false->Xr zf L->(∀e∈o.after,Region.binds .any e=true->L.getD e.on false=true)->X L a w->wpOp prog zf Q i (X (L.setIfInBounds i true)) a w) (V:∀L a w,(∀j,j<zf.size->L.getD j false=true)->X L a w->Q .normal a w):∀(O:Nat)(L:Array Bool)(a:Act)(w:Aj),L.size=zf.size->KH L+O=zf.size->Xr zf L->X L a w->wpAny prog .any zf Q O L a w
 |0,L,a,w,u,ae,_,T=>by have ab:∀j,j<zf.size->L.getD j false=true:=λj ag=>TZ Ad j Ad;refine⟨acd.2 λi hi=>?_,V L a w ab T⟩;obtain⟨H,o,J,_⟩:=ad0.1 hi;have U:=(z6.1 J).1;have Z:=ab i U;simp[Array.getD,u,U]at H Z;rw[H]at Z;cases Z
 |O+1,L,a,w,u,ae,ac,T=>by refine⟨λaf=>V L a w (AgR hb u af) T,λi hi=>?_⟩;obtain⟨H,o,J,ad⟩:=ad0.1 hi;have U:=(z6.1 J).1;exact wpOp_mono (λa' w' h=>AhB X hb aa V O _ a' w' (by rw[yr];exact u) (by rw[Pr H];omega) (ac.put J ad) h) (aa i o L a w J u (by simp[Array.getD,u,U]at H⊢;exact H) ac ad T)
theorem Rw{id:Nat}{l:List Oper}{a0:Act}{w:Aj}(X:Array Bool->Act->Aj->Prop)(u:prog.follows .mixedOrders=true)(hb:∀i o,l.toArray[i]? =some o->∀e∈o.after,Region.binds .any e=true->e.on<i) (H:∀i o L a w,l.toArray[i]? =some o->L.size=l.toArray.size->L.getD i false=false->Xr l.toArray L->(∀e∈o.after,Region.binds .any e=true->L.getD e.on false=true)->X L a w->wpOp prog l.toArray Q i (X (L.setIfInBounds i true)) a w) (J:∀L a w,(∀j,j<l.toArray.size->L.getD j false=true)->X L a w->Q .normal a w)(O:X (Array.replicate l.toArray.size false) a0 w.drew):(Code.region id l.toArray true).wp prog Q a0 w:=wp_region_any u (AhB X hb H J _ _ _ _ AG (by simp[KH,List.count_replicate]) (λj o U T=>by simp[Array.getD]at T) O)
end
section
variable{zf:Array Oper}{Q:Exit->Act->World->Prop}{S:Nat->Value->World->Prop}{w0:World}{a0:Act}{E:World->World->Prop}{n:Nat}
def MN(E:Aj->Aj->Prop)(n:Nat)(zf:Array Oper)(S:Nat->Aw->Aj->Prop)(w0:Aj)(a0:Act)(u:Array Bool)(a:Act)(w:Aj):Prop:=E w0 w/\a.defers=a0.defers/\a.tmps.size=a0.tmps.size/\∀t,(∀j o,j<n->zf[j]? =some o->o.dst=some t->u.getD j false=true)->S t (a.tmps.getD t undef) w
theorem Gs(a:Act)(d:Option Tmp)(v:Aw):(a.put d v).defers=a.defers/\(a.put d v).tmps.size=a.tmps.size:=by unfold Act.put;split;exact⟨rfl,yr ..⟩;exact⟨rfl,rfl⟩
theorem MN.step(U:Ht E)(V:∀t v w w',S t v w->E w w'->S t v w'){L:Array Bool}{a:Act}{w w':Aj}{i:Nat}{o:Oper}{v:Aw}(h:MN E n zf S w0 a0 L a w)(Z:zf[i]? =some o)(aa:∀t,o.dst=some t->t<a0.tmps.size)(ab:∀t,o.dst=some t->S t v w')(H:E w w'):MN E n zf S w0 a0 (L.setIfInBounds i true) (a.put o.dst v) w':=by obtain⟨ac,ad,J,ae⟩:=h;refine⟨U.trans ac H,(Gs ..).1.trans ad,(Gs ..).2.trans J,λt af=>?_⟩;by_cases e:o.dst=some t;rw[e,De (by rw[J];exact aa t e),zq rfl];exact ab t e;rw[C5 e];refine V t _ w w' (ae t λj p ag u O=>?_) H;have:=af j p ag u O;by_cases T:i=j;subst T;rw[Z]at u;cases u;exact absurd O e;rwa[aaz false T]at this
theorem Ml{m:Nat}{L:Array Bool}{J:Oper}(V:∀i,i<m->∃j o e,i<j/\j<=m/\zf[j]? =some o/\e∈o.after/\Region.binds .any e=true/\e.on=i)(Z:zf[m]? =some J)(aa:Xr zf L)(ab:∀e∈J.after,Region.binds .any e=true->L.getD e.on false=true):∀j,j<m->L.getD j false=true:=by
 have:∀k j,j<m->m-j<=k->L.getD j false=true:=by
  intro k;induction k with
  |zero=>intro j O ac;omega
  |succ k ad=> intro j O ac;obtain⟨u,ae,e,aj,ak,H,T,U,af⟩:=V j O;rw[<-af];by_cases ag:u=m;subst ag;rw[Z]at H;cases H;exact ab e T U;exact aa u ae H (ad u Ad Ad) e T U
 exactλj ah=>this m j ah Ad
theorem AfY(ac:Ht E){id:Nat}{l:List Oper}{ad:Oper}{w:Aj}(X:Array Bool->Act->Aj->Prop)(aB:prog.follows .mixedOrders=true)(am:l.length=n+1)(aC:l[n]? =some ad)(an:MK l.toArray n=true)(ao:Hi l.toArray n a0.tmps.size=true) (aD:∀t v w w',S t v w->E w w'->S t v w') (aE:∀i o,i<n->l[i]? =some o->∀L a W,L.size=l.length->X L a W->a.tmps.size=a0.tmps.size->E w W->(∀t∈o.looksAt l.toArray,∀j p,j<n->l[j]? =some p->p.dst=some t->L.getD j false=true)->(∀t∈o.looksAt l.toArray,S t (a.tmps.getD t undef) W)->(Region.wanted o (yielded l.toArray a.tmps)=true/\o.wp prog a W (λa' W'=>∃v,a'=a.put o.dst v/\(∀t,o.dst=some t->S t v W')/\E W W'/\X (L.setIfInBounds i true) (a.put o.dst v) W') Q)\/(Region.wanted o (yielded l.toArray a.tmps)=false/\(∀t,o.dst=some t->S t undef W)/\X (L.setIfInBounds i true) (a.put o.dst undef) W)) (aF:∀L a W,X L a W->(∀j,j<n->L.getD j false=true)->E w W->a.defers=a0.defers->a.tmps.size=a0.tmps.size->(∀t,S t (a.tmps.getD t undef) W)->wpOp prog l.toArray Q n (λa' w'=>Q .normal a' w') a W) (aG:∀t,(∀o∈l.take n,o.dst≠some t)->S t (a0.tmps.getD t undef) w.drew)(aH:X (Array.replicate l.length false) a0 w.drew):(Code.region id l.toArray true).wp prog Q a0 w:=by
 have aq:∀{i:Nat}{o:Oper},l.toArray[i]? =some o->l[i]? =some o:=λh=>by rwa[List.getElem?_toArray]at h
 have V:l.toArray[n]? =some ad:=by rw[List.getElem?_toArray];exact aC
 have au:∀{i:Nat}{o:Oper},l.toArray[i]? =some o->i<=n:=λh=>by have:=(zl.1 (aq h)).1;omega
 refine Rw (λL a W=>(L.getD n false=false->MN E n l.toArray S w a0 L a W/\X L a W)/\(L.getD n false=true->Q .normal a W)) aB (λi o u e O hb=>(DL ao (au u) u).1 e O hb) ?_ (λL a W h Z=>Z.2 (h n (by simp[am]))) ⟨λ_=>⟨⟨ac.drew w,rfl,rfl,λt J=>aG t λo u O=>?_⟩,by simpa using aH⟩,λh=>by simp[Array.getD]at h⟩;intro i o L a W u aI ae af av Z;have aw:L.size=l.length:=by simpa using aI
 by_cases ax:i=n;subst ax;obtain⟨⟨aJ,aK,aL,aM⟩,ag⟩:=Z.1 ae;rw[V]at u;cases u;have ay:=Ml (λi hi=>My an hi) V af av;exact wpOp_mono (λa' w' h=>⟨λe=>by simp[Array.getD,aw,am]at e,λ_=>h⟩) (aF L a W ag ay aJ aK aL λt=>aM t λj p H _ _=>ay j H)
 . have aa:i<n:=by have:=au u;omega
   have az:L.getD n false=false:=by
    cases e:L.getD n false with
    |false=>rfl
    |true=> rw[Ml (λi hi=>My an hi) V af (af n ad V e) i aa]at ae;cases ae
   obtain⟨ab,ag⟩:=Z.1 az;obtain⟨d1,d23⟩:=DL ao (aag aa) u;obtain⟨d2,d3⟩:=d23 aa;have aA:∀t∈o.looksAt l.toArray,∀j p,j<n->l.toArray[j]? =some p->p.dst=some t->L.getD j false=true:=λt J j p ah H aj=>by obtain⟨e,O,hb,aN⟩:=(d3 j p t ah H aj).1 J;rw[<-aN];exact av e O hb
   have next:∀v W',(∀t,o.dst=some t->S t v W')->E W W'->X (L.setIfInBounds i true) (a.put o.dst v) W'->((L.setIfInBounds i true).getD n false=false->MN E n l.toArray S w a0 (L.setIfInBounds i true) (a.put o.dst v) W'/\X (L.setIfInBounds i true) (a.put o.dst v) W')/\((L.setIfInBounds i true).getD n false=true->Q .normal (a.put o.dst v) W'):=λv W' T ak U=>⟨λ_=>⟨ab.step ac aD u d2 T ak,U⟩,λe=>by rw[aaz false ax,az]at e;cases e⟩
   unfold wpOp;simp only[u];rcases aE i o aa (aq u) L a W aw ag ab.2.2.1 ab.1 (λt J j p H aj=>aA t J j p H (by rw[List.getElem?_toArray];exact aj)) (λt J=>ab.2.2.2 t (aA t J))with⟨al,aO⟩|⟨al,T,U⟩
   . rw[zq al];exact Or.inl (Oper.wp_mono (λa' w'⟨v,aP,T,ak,U⟩=>by subst aP;exact next v w' T ak U) aO)
   rw[zo (by simp[al])];exact next undef W T (ac.refl W) U
 obtain⟨j,H⟩:=z0 u;have ah:=(zl.1 H).1;rw[ya]at ah;rw[xb,zq Ad]at H;have:=J j o Ad (by rw[List.getElem?_toArray];exact H) O;simp[Array.getD]at this
def Ah0(E:Aj->Aj->Prop)(zf:Array Oper)(Q:Exit->Act->Aj->Prop)(S:Nat->Aw->Aj->Prop)(w0:Aj)(o:Oper):Prop:=∀(a:Act)(w:Aj),E w0 w->(∀t∈o.looksAt zf,S t (a.tmps.getD t undef) w)->(Region.wanted o (yielded zf a.tmps)=true/\o.wp prog a w (λa' w'=>∃v,a'=a.put o.dst v/\(∀t,o.dst=some t->S t v w')/\E w w') Q)\/(Region.wanted o (yielded zf a.tmps)=false/\∀t,o.dst=some t->S t undef w)
end
section
variable{E:World->World->Prop}{Q:Exit->Act->World->Prop}{S:Nat->Value->World->Prop}{w:World}{a0:Act}
theorem Abf(U:Ht E){id:Nat}{l:List Oper}(af:prog.follows .mixedOrders=true)(ac:Hi l.toArray l.length a0.tmps.size=true)(ad:∀t v w w',S t v w->E w w'->S t v w') (ag:∀(i:Nat)(o:Oper),l[i]? =some o->Ah0 E l.toArray Q S w o)(ah:∀a W,E w W->a.defers=a0.defers->a.tmps.size=a0.tmps.size->(∀t,S t (a.tmps.getD t undef) W)->Q .normal a W) (aj:∀t,(∀o∈l,o.dst≠some t)->S t (a0.tmps.getD t undef) w):(Code.region id l.toArray true).wp prog Q a0 w:=by
 have ae:∀{i:Nat}{o:Oper},l.toArray[i]? =some o->l[i]? =some o:=λh=>by rwa[List.getElem?_toArray]at h
 have V:∀{i:Nat}{o:Oper},l.toArray[i]? =some o->i<l.length:=λh=>(zl.1 (ae h)).1;refine Rw (MN E l.length l.toArray S w a0) af (λi o u e O hb=>(DL ac (aag (V u)) u).1 e O hb) (λi o L a W u au av aw ak H=>?_) (λL a W h H=>ah a W H.1 H.2.1 H.2.2.1 λt=>H.2.2.2 t λj p J _ _=>h j (by simpa using J)) ⟨U.drew w,rfl,rfl,λt Z=>ad t _ _ _ (aj t λo u O=>?_) (U.drew w)⟩
 . obtain⟨d2,d3⟩:=(DL ac (aag (V u)) u).2 (V u);have next:∀v W',(∀t,o.dst=some t->S t v W')->E W W'->MN E l.length l.toArray S w a0 (L.setIfInBounds i true) (a.put o.dst v) W':=λv W' T aa=>H.step U ad u d2 T aa
   unfold wpOp;simp only[u];rcases ag i o (ae u) a W H.1 (λt Z=>H.2.2.2 t λj p J al am=>by obtain⟨e,O,hb,an⟩:=(d3 j p t J al am).1 Z;rw[<-an];exact ak e O hb)with⟨ab,ao⟩|⟨ab,T⟩
   . rw[zq ab];exact Or.inl (Oper.wp_mono (λa' w'⟨v,aq,T,aa⟩=>by subst aq;exact next v w' T aa) ao)
   rw[zo (by simp[ab])];exact next undef W T (U.refl W)
 obtain⟨j,J⟩:=z0 u;have:=Z j o (zl.1 J).1 (by rw[List.getElem?_toArray];exact J) O;simp[Array.getD]at this
end
def Lb{l:List Oper}{vs:List Aw}{a0:Act}{zf:Array Oper}{n k V:Nat}(ab:a0.tmps.size=V)(Z:vs.length=l.length)(u:∀i o,l[i]? =some o->zf[k+i]? =some o/\k+i<n)(O:Hi zf n V=true):(∀i o,l[i]? =some o->∀t∈o.looksAt zf,(Bt a0 l vs).tmps.getD t undef=(Bt a0 (l.take i) (vs.take i)).tmps.getD t undef)/\(∀(i:Nat)(o:Oper)(v:Aw)(t:Nat),l[i]? =some o->vs[i]? =some v->o.dst=some t->(Bt a0 l vs).tmps.getD t undef=v):=by
 have aa:∀i,Bt a0 l vs=Bt (Bt a0 (l.take i) (vs.take i)) (l.drop i) (vs.drop i):=λi=>by rw[<-IW _ _ _ _ _ (by rw[ya,ya,Z]),xt,xt]
 refine⟨λi o hi t J=>?_,λi o v t hi ac J=>?_⟩;rw[aa i,DF];intro p T U;obtain⟨j,H⟩:=z0 T;rw[aaj]at H;obtain⟨d1,d3⟩:=DL O (aag (u i o hi).2) (u i o hi).1;obtain⟨e,ad,ae,aj⟩:=((d3 (u i o hi).2).2 (k+(i+j)) p t (u _ _ H).2 (u _ _ H).1 U).1 J;have:=d1 e ad ae;omega;have af:l.take (i+1)=l.take i++[o]:=by rw[abj,hi];rfl
 have ag:vs.take (i+1)=vs.take i++[v]:=by rw[abj,ac];rfl
 rw[aa (i+1),DF];rw[af,ag,IW _ _ _ _ _ (by rw[ya,ya,Z])];show((Bt a0 (l.take i) (vs.take i)).put o.dst v).tmps.getD t undef=v;have ah:=((DL O (aag (u i o hi).2) (u i o hi).1).2 (u i o hi).2).1 t J;rw[J,De (by rw[Dp,ab];exact ah),zq rfl];intro p T U;obtain⟨j,H⟩:=z0 T;rw[aaj]at H;have:=(((DL O (aag (u i o hi).2) (u i o hi).1).2 (u i o hi).2).2 (k+(i+1+j)) p t (u _ _ H).2 (u _ _ H).1 U).2 J;omega
def QZ{a b:Act}(u:a.tmps.size=b.tmps.size)(H:a.defers=b.defers)(h:∀t,a.tmps.getD t undef=b.tmps.getD t undef):a=b:=by
 obtain⟨J,V⟩:=a;obtain⟨O,db⟩:=b;have e:J=O:=acp u λt T U=>by simpa[Array.getD,T,U]using h t
 cases e;cases H;rfl
def DD(One:Nat->Oper->Aw->Act->Prop)(Q:Act->Prop):Nat->List Oper->Act->Prop
 |_,[],a=>Q a
 |k,o::rest,a=>∃v,One k o v a/\DD One Q (k+1) rest (a.put o.dst v)
def KY{One Q}:∀l k a,DD One Q k l a->∃vs,vs.length=l.length/\Q (Bt a l vs)/\∀i o v,l[i]? =some o->vs[i]? =some v->One (k+i) o v (Bt a (l.take i) (vs.take i))
 |[],_,a,h=>⟨[],rfl,h,λi o v hi=>by simp at hi⟩
 |o::l,k,a,⟨v,H,h⟩=>by
  obtain⟨vs,J,O,T⟩:=KY l _ _ h;refine⟨v::vs,by simp[J],O,λi U V hi u=>?_⟩;cases i with
  |zero=>simp at hi u;subst hi u;exact H
  |succ i=> have:=T i U V (by simpa using hi) (by simpa using u);rwa[Nat.add_right_comm]at this
def LI{One u Q H}(J:∀a,Q a->H a)(O:∀k o v a,One k o v a->u k o v a):∀l k a,DD One Q k l a->DD u H k l a
 |[],_,a,h=>J a h
 |_::l,k,a,⟨v,T,h⟩=>⟨v,O k _ v a T,LI J O l _ _ h⟩
def GJ{One Q k a o rest v}(u:One k o v a){a'}(H:a.put o.dst v=a')(h:DD One Q (k+1) rest a'):DD One Q k (o::rest) a:=⟨v,u,H▸h⟩
def AN{One Q k a}(h:Q a):DD One Q k [] a:=h
section
variable{P:Program}{zf:Array Oper}{w:World}{E:World->World->Prop}
def AiO(E:Aj->Aj->Prop)(P:Program)(o:Oper)(a:Act)(v:Aw)(W:Aj):Prop:=(∃W',(execOp a.eval o).run P W=.ok (.value v) W'/\E W W')\/∃f args,(execOp a.eval o).run P W=.ok (.enter f args) W/\Calls P f args W λe w'=>e=.returned v/\E W w'
def E7(E:Aj->Aj->Prop)(P:Program)(zf:Array Oper)(w:Aj)(o:Oper)(v:Aw)(a:Act):Prop:=(Region.wanted o (yielded zf a.tmps)=true/\∀W,E w W->AiO E P o a v W)\/(Region.wanted o (yielded zf a.tmps)=false/\v=undef)
abbrev Iu(P:Program)(zf:Array Oper)(w:Aj)(o:Oper)(v:Aw)(a:Act):Prop:=E7 Ae P zf w o v a
end
abbrev GZ:=List (Nat×(Aw->Aj->Prop))
def AQ(a:Act):GZ->(Nat->Aw)->Act
 |[],_=>a
 |p::r,σ=>AQ (a.put (some p.1) (σ p.1)) r σ
def J2:∀sp a σ,(AQ a sp σ).tmps.size=a.tmps.size
 |[],_,_=>rfl
 |p::r,a,σ=>by rw[AQ,J2 r];show(a.tmps.setIfInBounds p.1 _).size=_;exact yr ..
def GQ:∀sp a σ,(AQ a sp σ).defers=a.defers
 |[],_,_=>rfl
 |p::r,a,σ=>by rw[AQ,GQ r];rfl
def Kd:∀sp a σ,(∀p∈sp,p.1<a.tmps.size)->∀t,(AQ a sp σ).tmps.getD t undef=if(sp.map Prod.fst).contains t then σ t else a.tmps.getD t undef
 |[],_,_,_,_=>by simp[AQ]
 |p::r,a,σ,h,t=>by
  have u:∀q∈r,q.1<(a.put (some p.1) (σ p.1)).tmps.size:=λq H=>by show q.1<(a.tmps.setIfInBounds p.1 _).size;rw[yr];exact h q (yj _ H)
  rw[AQ,Kd r _ σ u t,De (h p (yx ..))];by_cases e:t=p.1;subst e;simp;rw[zo e];have:(List.map Prod.fst (p::r)).contains t=(List.map Prod.fst r).contains t:=by rw[xn,List.contains_cons];have:(t==p.1)=false:=yv.2 e;rw[this,aar]
  rw[this]
def CT(sp:GZ)(o:Oper):Bool:=match o.dst with|some t=>(sp.map Prod.fst).contains t|none=>false
def YX(P:Program)(p:Aw->Aj->Prop)(o:Oper)(a:Act)(W:Aj):Prop:=(∃v W',(execOp a.eval o).run P W=.ok (.value v) W'/\Ae W W'/\p v W')\/∃f args,(execOp a.eval o).run P W=.ok (.enter f args) W/\Calls P f args W λe w'=>∃v,e=.returned v/\Ae W w'/\p v w'
def Ae4(P:Program)(zf:Array Oper)(w:Aj)(sp:GZ)(o:Oper)(a:Act):Prop:=Region.wanted o (yielded zf a.tmps)=true/\∀t p,o.dst=some t->sp.lookup t=some p->∀W σ,Ae w W->(∀t q,sp.lookup t=some q->(o.looksAt zf).contains t=true->q (σ t) W)->YX P p o (AQ a sp σ) W
def Hu(sp:GZ):Prop:=∀t p,sp.lookup t=some p->∀v W W',p v W->Ae W W'->p v W'
def Hu.nil:Hu []:=λt p h=>by simp at h
def Hu.cons{k p r}(u:∀v W W',p v W->Ae W W'->p v W')(H:Hu r):Hu ((k,p)::r):=λt q h=>by rw[List.lookup_cons]at h;by_cases e:t==k;simp only[e]at h;cases h;exact u;simp only[e]at h;exact H t q h
def Jk(zf:Array Oper)(ts:List Nat)(n u:Nat):Bool:=(ts.all λt=>decide (t<u)&&(List.range n).any λi=>match zf[i]? with|some o=>o.dst==some t|none=>false)&&(List.range n).all λi=>match zf[i]? with
 |none=>true
 |some o=>(match o.dst with|some t=>ts.contains t|none=>false)||ts.all λt=>!(o.looksAt zf).contains t
def JY{sp:GZ}{t}:(sp.map Prod.fst).contains t=true↔∃p,sp.lookup t=some p:=by
 induction sp with
 |nil=>simp
 |cons q r u=> obtain⟨k,x⟩:=q;rw[xn,List.contains_cons,List.lookup_cons];by_cases e:t==k;simp[e];simp only[e,aar];exact u
def DE{sp:GZ}{t}(h:(sp.map Prod.fst).contains t=false):sp.lookup t=none:=by
 cases e:sp.lookup t with
 |none=>rfl
 |some p=>rw[JY.2 ⟨p,e⟩]at h;cases h
abbrev Qq:=Nat->Aw->Nat->Nat->Aj->Prop
def Na(C:Qq)(H:Nat->Prop)(σ:Nat->Aw)(w W:Aj):Prop:=∃I:Nat->Nat×Nat,(∀t,H t->C t (σ t) (I t).1 (I t).2 W/\w<=(I t).1/\(I t).2<=W)/\∀t u,H t->H u->t≠u->(I t).2<=(I u).1\/(I u).2<=(I t).1
def Abt(sp:GZ)(zf:Array Oper)(n:Nat)(u:Array Bool)(t:Nat):Prop:=(sp.map Prod.fst).contains t=true/\∃j o,j<n/\zf[j]? =some o/\o.dst=some t/\u.getD j false=true
def XI(C:Qq)(sp:GZ)(zf:Array Oper)(n:Nat)(w:Aj)(u:Array Bool)(a:Act)(W:Aj):Prop:=Na C (Abt sp zf n u) (λt=>a.tmps.getD t undef) w W
def LG(P:Program)(zf:Array Oper)(o:Oper)(v:Aw)(a:Act):Prop:=(Region.wanted o (yielded zf a.tmps)=true/\∀W,(execOp a.eval o).run P W=.ok (.value v) W)\/(Region.wanted o (yielded zf a.tmps)=false/\v=undef)
def FM(P:Program)(zf:Array Oper)(Q:Act->Prop):List Oper->Act->Prop
 |[],a=>Q a
 |o::rest,a=>∃v,LG P zf o v a/\FM P zf Q rest (a.put o.dst v)
section
variable{P:Program}{zf:Array Oper}
theorem Eg{Q a}(h:Q a):FM P zf Q [] a:=h
theorem ZI{Q a o rest}(v)(u:Region.wanted o (yielded zf a.tmps)=true)(H:∀W,(execOp a.eval o).run P W=.ok (.value v) W) {a'}(J:a.put o.dst v=a')(h:FM P zf Q rest a'):FM P zf Q (o::rest) a:=⟨v,.inl ⟨u,H⟩,J▸h⟩
theorem EC{Q a o rest}(u:Region.wanted o (yielded zf a.tmps)=false){a'}(H:a.put o.dst undef=a')(h:FM P zf Q rest a'):FM P zf Q (o::rest) a:=⟨undef,.inr ⟨u,rfl⟩,H▸h⟩
theorem Kk{Q}:∀l a,FM P zf Q l a->∃vs,vs.length=l.length/\Q (Bt a l vs)/\∀i o v,l[i]? =some o->vs[i]? =some v->LG P zf o v (Bt a (l.take i) (vs.take i))
 |[],a,h=>⟨[],rfl,h,λi o v hi=>by simp at hi⟩
 |o::l,a,⟨v,H,h⟩=>by
  obtain⟨vs,J,O,T⟩:=Kk l _ h;refine⟨v::vs,by simp[J],O,λi U V hi u=>?_⟩;cases i with
  |zero=>simp at hi u;subst hi u;exact H
  |succ i=>exact T i U V (by simpa using hi) (by simpa using u)
end
def Cm(H:Aj)(P:Aw->Aj->Prop)(W:Aj):Prop:=Ae H W\/∃v u,P v u/\Ae u W
def WL(u:Aj)(P:Aw->Aj->Prop)(zf:Array Oper)(o:Oper)(v:Aw)(a:Act):Prop:=(Region.wanted o (yielded zf a.tmps)=true/\∀W,Cm u P W->∃W',(execOp a.eval o).run prog W=.ok (.value v) W'/\Ae W W')\/(Region.wanted o (yielded zf a.tmps)=false/\v=undef)
def Ph(Q:Exit->Act->Aj->Prop)(b:Act)(d:Option Tmp)(P:Aw->Aj->Prop):Exit->Act->Aj->Prop
 |.normal,a,w=>∃v,a=b.put d v/\P v w
 |.outgrown,a,w=>Q .outgrown a w
 |_,_,_=>False
def Cp{Q b d P a w}(v)(u:a=b.put d v)(h:P v w):Ph Q b d P .normal a w:=⟨v,u,h⟩
def RO{Q b d P}(h:LetsOut (Ph Q b d P)):LetsOut Q:=h
def ZE{J O o a b w K T}(U:∀c a w,¬J (.panic c) a w)(ab:LetsOut J->LetsOut O)(u:execOp a.eval o=execOp b.eval o)(V:a.defers=b.defers) (Z:∀aa v w',K ({b with defers:=aa}.put o.dst v) w'->T ({a with defers:=aa}.put o.dst v) w')(h:o.wp prog b w K J):o.wp prog a w T O:=by
 have H:=λv w' h=>by have:=Z a.defers v w' (by rw[V];exact h);exact this
 unfold Oper.wp at *;rw[u];generalize(execOp b.eval o).run prog w=r at *;cases r with
 |ok n w'=>
  cases n<;>simp only[Oper.upon]at h⊢;exact H _ _ h;exact H _ _ h;all_goals first
   |exact(adl h (λe ac u=>by cases e<;>first|exact H _ _ u|exact(U _ _ _ u).elim|exact ab u))
   |exact Rows.mono h (λ_ _ u=>H _ _ u)
   |(rw[V];exact Z _ _ _ h)
 |halt x w'=>cases x<;>simp only[Oper.upon]at h⊢<;>first|exact(U _ _ _ h).elim|exact h.elim
section
variable{E:World->World->Prop}{C:Qq}{P:Program}{zf:Array Oper}{w:World}{sp:GZ}
def Ajj(E:Aj->Aj->Prop)(P:Program)(p:Aw->Aj->Prop)(o:Oper)(a:Act)(W:Aj):Prop:=(∃v W',(execOp a.eval o).run P W=.ok (.value v) W'/\E W W'/\p v W')\/∃f args,(execOp a.eval o).run P W=.ok (.enter f args) W/\Calls P f args W λe w'=>∃v,e=.returned v/\E W w'/\p v w'
def Aiq(C:Qq)(E:Aj->Aj->Prop)(P:Program)(zf:Array Oper)(w:Aj)(sp:GZ)(o:Oper)(a:Act):Prop:=Region.wanted o (yielded zf a.tmps)=true/\∀t p,o.dst=some t->sp.lookup t=some p->∀W σ,E w W->(∀t q,sp.lookup t=some q->(o.looksAt zf).contains t=true->q (σ t) W)->Na C (λt=>(sp.map Prod.fst).contains t=true/\(o.looksAt zf).contains t=true) σ w W->Ajj E P (λv W'=>p v W'/\C t v W W' W') o (AQ a sp σ) W
def KK(C:Qq)(E:Aj->Aj->Prop)(P:Program)(zf:Array Oper)(w:Aj)(sp:GZ)(o:Oper)(v:Aw)(a:Act):Prop:=if CT sp o then Aiq C E P zf w sp o a else E7 E P zf w o v a
def JJ(P:Program)(zf:Array Oper)(w:Aj)(sp:GZ)(o:Oper)(v:Aw)(a:Act):Prop:=if CT sp o then Ae4 P zf w sp o a else Iu P zf w o v a
end
def In(w:Aj)(P:Aw->Aj->Prop)(zf:Array Oper)(sp:GZ)(f:Bool)(o:Oper)(v:Aw)(a:Act):Prop:=if CT sp o then Ae4 prog zf w sp o a else if f then WL w P zf o v a else Iu prog zf w o v a
abbrev Ru(E:Aj->Aj->Prop)(P:Program)(zf:Array Oper)(w:Aj)(Q:Act->Prop)(l:List Oper)(a:Act):Prop:=DD (λ_=>E7 E P zf w) Q 0 l a
abbrev Ach(P:Program)(zf:Array Oper)(w:Aj)(Q:Act->Prop)(l:List Oper)(a:Act):Prop:=Ru Ae P zf w Q l a
abbrev Ae0(P:Program)(zf:Array Oper)(w:Aj)(sp:GZ)(Q:Act->Prop)(l:List Oper)(a:Act):Prop:=DD (λ_=>JJ P zf w sp) Q 0 l a
abbrev AhV(C:Qq)(P:Program)(zf:Array Oper)(w:Aj)(sp:GZ)(Q:Act->Prop)(l:List Oper)(a:Act):Prop:=DD (λ_=>KK C Ae P zf w sp) Q 0 l a
abbrev Ag4(w:Aj)(P:Aw->Aj->Prop)(zf:Array Oper)(sp:GZ)(fr:Nat->Bool)(Q:Act->Prop)(l:List Oper)(a:Act):Prop:=DD (λk=>In w P zf sp (fr k)) Q 0 l a
abbrev T0(w:Aj)(P:Aw->Aj->Prop)(zf:Array Oper)(Q:Act->Prop)(l:List Oper)(a:Act):Prop:=Ag4 w P zf [] (λ_=>true) Q l a
section
variable{P:Program}{zf:Array Oper}{w:World}{E:World->World->Prop}{Q:Act->Prop}{k:Nat}{a:Act}{o:Oper}{rest:List Oper}{v:Value}{f:FuncId}{args:Array Value}{sp:GZ}{C:Qq}{PK:Value->World->Prop}{fr:Nat->Bool}
theorem Gv(u:Ht E)(H:Region.wanted o (yielded zf a.tmps)=true)(J:∀W,E w W->(execOp a.eval o).run P W=.ok (.value v) W){a'}(O:a.put o.dst v=a')(h:DD (λ_=>E7 E P zf w) Q (k+1) rest a'):DD (λ_=>E7 E P zf w) Q k (o::rest) a:=GJ (.inl ⟨H,λW T=>.inl ⟨W,J W T,u.refl W⟩⟩) O h
theorem Bg(u:Region.wanted o (yielded zf a.tmps)=true)(H:∀W,Ae w W->(execOp a.eval o).run P W=.ok (.value v) W){a'}(J:a.put o.dst v=a')(h:DD (λ_=>E7 Ae P zf w) Q (k+1) rest a'):DD (λ_=>E7 Ae P zf w) Q k (o::rest) a:=Gv Dz u H J h
theorem Bu(H:∀W,E w W->Calls P f args W λe w'=>e=.returned v/\E W w')(J:Region.wanted o (yielded zf a.tmps)=true)(O:∀W,E w W->(execOp a.eval o).run P W=.ok (.enter f args) W){a'}(T:a.put o.dst v=a')(h:DD (λ_=>E7 E P zf w) Q (k+1) rest a'):DD (λ_=>E7 E P zf w) Q k (o::rest) a:=GJ (.inl ⟨J,λW u=>.inr ⟨f,args,O W u,H W u⟩⟩) T h
theorem AS(u:Region.wanted o (yielded zf a.tmps)=false){a'}(H:a.put o.dst undef=a')(h:DD (λ_=>E7 E P zf w) Q (k+1) rest a'):DD (λ_=>E7 E P zf w) Q k (o::rest) a:=GJ (.inr ⟨u,rfl⟩) H h
theorem Ep(u:CT sp o=false)(H:Region.wanted o (yielded zf a.tmps)=true)(J:∀W,Ae w W->(execOp a.eval o).run P W=.ok (.value v) W){a'}(O:a.put o.dst v=a')(h:DD (λ_=>JJ P zf w sp) Q (k+1) rest a'):DD (λ_=>JJ P zf w sp) Q k (o::rest) a:=GJ (by unfold JJ;rw[zo (by simp[u])];exact .inl ⟨H,λW T=>.inl ⟨W,J W T,Ae.refl W⟩⟩) O h
theorem KT(H:CT sp o=false)(J:∀W,Ae w W->Calls P f args W λe w'=>e=.returned v/\Ae W w')(O:Region.wanted o (yielded zf a.tmps)=true)(T:∀W,Ae w W->(execOp a.eval o).run P W=.ok (.enter f args) W){a'}(U:a.put o.dst v=a')(h:DD (λ_=>JJ P zf w sp) Q (k+1) rest a'):DD (λ_=>JJ P zf w sp) Q k (o::rest) a:=GJ (by unfold JJ;rw[zo (by simp[H])];exact .inl ⟨O,λW u=>.inr ⟨f,args,T W u,J W u⟩⟩) U h
theorem Di(t:Nat)(p)(J:CT sp o=true)(O:o.dst=some t)(T:sp.lookup t=some p)(U:Region.wanted o (yielded zf a.tmps)=true) (V:∀W σ,Ae w W->(∀t q,sp.lookup t=some q->(o.looksAt zf).contains t=true->q (σ t) W)->YX P p o (AQ a sp σ) W) {a'}(Z:a.put o.dst undef=a')(h:DD (λ_=>JJ P zf w sp) Q (k+1) rest a'):DD (λ_=>JJ P zf w sp) Q k (o::rest) a:=GJ (by unfold JJ;rw[zq J];exact⟨U,λac ad u H W σ aa ab=>by rw[O]at u;cases u;rw[T]at H;cases H;exact V W σ aa ab⟩) Z h
theorem Afe(u:CT sp o=false)(H:Region.wanted o (yielded zf a.tmps)=true)(J:∀W,Ae w W->(execOp a.eval o).run P W=.ok (.value v) W){a'}(O:a.put o.dst v=a')(h:DD (λ_=>KK C Ae P zf w sp) Q (k+1) rest a'):DD (λ_=>KK C Ae P zf w sp) Q k (o::rest) a:=GJ (by unfold KK;rw[zo (by simp[u])];exact .inl ⟨H,λW T=>.inl ⟨W,J W T,Ae.refl W⟩⟩) O h
theorem Wd(t:Nat)(p)(J:CT sp o=true)(O:o.dst=some t)(T:sp.lookup t=some p)(U:Region.wanted o (yielded zf a.tmps)=true) (V:∀W σ,Ae w W->(∀t q,sp.lookup t=some q->(o.looksAt zf).contains t=true->q (σ t) W)->Na C (λt=>(sp.map Prod.fst).contains t=true/\(o.looksAt zf).contains t=true) σ w W->YX P (λv W'=>p v W'/\C t v W W' W') o (AQ a sp σ) W) {a'}(Z:a.put o.dst undef=a')(h:DD (λ_=>KK C Ae P zf w sp) Q (k+1) rest a'):DD (λ_=>KK C Ae P zf w sp) Q k (o::rest) a:=GJ (by unfold KK;rw[zq J];exact⟨U,λad ae u H W σ aa ab ac=>by rw[O]at u;cases u;rw[T]at H;cases H;exact V W σ aa ab ac⟩) Z h
theorem Ky(u:CT sp o=false)(H:fr k=true)(J:Region.wanted o (yielded zf a.tmps)=true)(O:∀W,Cm w PK W->(execOp a.eval o).run prog W=.ok (.value v) W){a'}(T:a.put o.dst v=a')(h:DD (λk=>In w PK zf sp (fr k)) Q (k+1) rest a'):DD (λk=>In w PK zf sp (fr k)) Q k (o::rest) a:=GJ (by unfold In;rw[zo (by simp[u]),zq H];exact .inl ⟨J,λW U=>⟨W,O W U,Ae.refl W⟩⟩) T h
theorem AiU(u:CT sp o=false)(H:fr k=false)(J:Region.wanted o (yielded zf a.tmps)=true)(O:∀W,Ae w W->(execOp a.eval o).run prog W=.ok (.value v) W){a'}(T:a.put o.dst v=a')(h:DD (λk=>In w PK zf sp (fr k)) Q (k+1) rest a'):DD (λk=>In w PK zf sp (fr k)) Q k (o::rest) a:=GJ (by unfold In;rw[zo (by simp[u]),zo (by simp[H])];exact .inl ⟨J,λW U=>.inl ⟨W,O W U,Ae.refl W⟩⟩) T h
theorem Ae3(t:Nat)(p)(J:CT sp o=true)(O:o.dst=some t)(T:sp.lookup t=some p)(U:Region.wanted o (yielded zf a.tmps)=true) (V:∀W σ,Ae w W->(∀t q,sp.lookup t=some q->(o.looksAt zf).contains t=true->q (σ t) W)->YX prog p o (AQ a sp σ) W) {a'}(Z:a.put o.dst undef=a')(h:DD (λk=>In w PK zf sp (fr k)) Q (k+1) rest a'):DD (λk=>In w PK zf sp (fr k)) Q k (o::rest) a:=GJ (by unfold In;rw[zq J];exact⟨U,λac ad u H W σ aa ab=>by rw[O]at u;cases u;rw[T]at H;cases H;exact V W σ aa ab⟩) Z h
theorem PU{Q a o rest v}(u:Region.wanted o (yielded zf a.tmps)=true)(H:∀W,(execOp a.eval o).run P W=.ok (.value v) W) {a'}(J:a.put o.dst v=a')(h:FM P zf Q rest a'):FM P zf Q (o::rest) a:=ZI v u H J h
end
section
variable{E:World->World->Prop}{C:Qq}{Q:Exit->Act->World->Prop}{w:World}{a0:Act}{sp:GZ}{zf:Array Oper}{n:Nat}
theorem OW{o}(h:CT sp o=true):∃t,o.dst=some t/\(sp.map Prod.fst).contains t=true:=by
 unfold CT at h;cases e:o.dst with
 |none=>rw[e]at h;cases h
 |some t=>rw[e]at h;exact⟨t,rfl,h⟩
theorem L8{o}{t:Nat}(h:CT sp o=false)(u:o.dst=some t):(sp.map Prod.fst).contains t=false:=by unfold CT at h;rw[u]at h;exact h
theorem XI.step(U:∀{a b},E a b->a.heap.size<=b.heap.size)(ad:∀t v lo hi W W',C t v lo hi W->E W W'->C t v lo hi W'){i}{o:Oper}{L a W W' v}(ae:zf[i]? =some o)(af:∀t,(sp.map Prod.fst).contains t=true->t<a.tmps.size)(ag:E w W)(V:E W W') (ah:∀d,o.dst=some d->(sp.map Prod.fst).contains d=true->C d v W W' W')(h:XI C sp zf n w L a W):XI C sp zf n w (L.setIfInBounds i true) (a.put o.dst v) W':=by
 obtain⟨I,O,aj⟩:=h;have J:∀t,o.dst≠some t->Abt sp zf n (L.setIfInBounds i true) t->Abt sp zf n L t:=λt ak⟨u,j,p,al,T,Z,am⟩=>by refine⟨u,j,p,al,T,Z,?_⟩;by_cases e:i=j;subst e;rw[ae]at T;cases T;exact absurd Z ak;rwa[aaz false e]at am
 refine⟨λt=>if o.dst=some t then(W,W')else I t,λt u=>?_,λt H u aa ab=>?_⟩;dsimp only;by_cases e:o.dst=some t;rw[zq e,e,De (af t u.1),zq rfl];exact⟨ah t e u.1,U ag,zs _⟩;rw[zo e,C5 e];obtain⟨an,ao,aq⟩:=O t (J t e u);exact⟨ad _ _ _ _ _ _ an V,ao,z7 aq (U V)⟩;dsimp only;by_cases e:o.dst=some t;have e':o.dst≠some H:=λac=>ab (by rw[e]at ac;exact xg ac);rw[zq e,zo e'];exact .inr (O H (J H e' aa)).2.2;rw[zo e];by_cases e':o.dst=some H;rw[zq e'];exact .inl (O t (J t e u)).2.2;rw[zo e'];exact aj t H (J t e u) (J H e' aa) ab
def AiG(E:Aj->Aj->Prop)(sp:GZ):Prop:=∀t p,sp.lookup t=some p->∀v W W',p v W->E W W'->p v W'
theorem QX(av:Ht E)(aJ:∀t v lo hi W W',C t v lo hi W->E W W'->C t v lo hi W'){id}{l:List Oper}{ay}(aV:prog.follows .mixedOrders=true)(T:Hi l.toArray n a0.tmps.size=true)(aW:Region.noSelect l.toArray=true)(al:l.length=n+1)(aK:l[n]? =some ay)(aX:MK l.toArray n=true)
 (hmx:Jk l.toArray (sp.map Prod.fst) n a0.tmps.size=true)(aY:((List.range n).all λi=>match l.toArray[i]? with|none=>true|some o=>!CT sp o||o.guard.isNone)=true)(aZ:AiG E sp)
 (h:DD (λ_=>KK C E prog l.toArray w sp) (λa'=>∀W σ,E w W->(∀t q,sp.lookup t=some q->q (σ t) W)->Na C (λt=>(sp.map Prod.fst).contains t=true) σ w W->wpList prog l.toArray Q [ay] (AQ a' sp σ) W) 0 (l.take n) a0):(Code.region id l.toArray true).wp prog Q a0 w:=by
 obtain⟨vs,ah,a1,a5⟩:=KY (l.take n) 0 a0 h
 have a6:(l.take n).length=n:=by rw[ya];omega
 have az:∀i o,l[i]? =some o->l.toArray[i]? =some o:=λi o hi=>by rw[List.getElem?_toArray];exact hi
 have a7:∀i o,(l.take n)[i]? =some o->l.toArray[i]? =some o/\i<n:=λi o hi=>by
  rw[xb]at hi
  split at hi
  exact⟨az _ _ hi,by assumption⟩
  cases hi
 obtain⟨aL,a8⟩:=Lb (a0:=a0) (k:=0) rfl ah (λi o hi=>by rw[xv];exact a7 i o hi) T
 unfold Jk at hmx
 rw[z4]at hmx
 have am:∀t,(sp.map Prod.fst).contains t=true->t<a0.tmps.size/\∃i o,i<n/\l.toArray[i]? =some o/\o.dst=some t:=λt u=>by
  have H:=yn.1 hmx.1 t (by simpa using u)
  rw[z4,z8]at H
  refine⟨H.1,?_⟩
  obtain⟨i,hi,U⟩:=y7.1 H.2
  cases J:l.toArray[i]? with
  |none=>rw[J]at U;cases U
  |some o=>rw[J]at U;exact⟨i,o,zv.1 hi,J,by simpa using U⟩
 have a9:∀i o,i<n->l.toArray[i]? =some o->CT sp o=false->∀t∈o.looksAt l.toArray,(sp.map Prod.fst).contains t=false:=λi o hi J ab t u=>by
  have H:=yn.1 hmx.2 i (zv.2 hi)
  rw[J]at H
  dsimp only at H
  have U:=ab
  unfold CT at U
  rw[U,aar]at H
  cases V:(sp.map Prod.fst).contains t with
  |false=>rfl
  |true=>
   have O:=yn.1 H t (by simpa using V)
   rw[show(o.looksAt l.toArray).contains t=true by simpa using u]at O
   cases O
 have ba:∀{b:Act},b.tmps.size=a0.tmps.size->∀p∈sp,p.1<b.tmps.size:=λhb p ac=>by rw[hb];exact(am p.1 (by simpa using⟨p.2,ac⟩)).1
 have aM:∀{b:Act}{σ:Nat->Aw}{t:Nat},b.tmps.size=a0.tmps.size->(AQ b sp σ).tmps.getD t undef=if(sp.map Prod.fst).contains t then σ t else b.tmps.getD t undef:=λhb=>Kd sp _ _ (ba hb) _
 refine AfY (n:=n) (a0:=a0) av (S:=λt v W=>match sp.lookup t with|some p=>p v W|none=>v=(Bt a0 (l.take n) vs).tmps.getD t undef) (XI C sp l.toArray n w) aV al aK aX T (λt v W W' h ad=>?_) (λi o aw aN L a W br an bc ad bd ab=>?_) (λL a w' an be ad bf bh ab=>?_) (λt u=>?_) ⟨λ_=>(0,0),λt⟨_,j,p,_,_,_,ah⟩=>?_,λt aj⟨_,j,p,_,_,_,ah⟩_ _=>?_⟩
 cases e:sp.lookup t with
 |none=>rw[e]at h;exact h
 |some p=>rw[e]at h;exact aZ t p e v W W' h ad
 have J:=az i o aN
 have hi:(l.take n)[i]? =some o:=by rw[xb,zq aw];exact aN
 obtain⟨v,aO⟩:∃v,vs[i]? =some v:=⟨_,zr (by rw[ah,a6];exact aw)⟩
 have aP:∀aA b,o.op≠.select aA b:=λaA b=>aa0 aW i o aA b J
 have ao:=a5 i o v hi aO
 have aQ:∀t,(sp.map Prod.fst).contains t=true->t<a.tmps.size:=λt u=>by rw[bc];exact(am t u).1
 unfold KK at ao
 cases af:CT sp o with
 |false=>
  rw[zo (by simp[af])]at ao
  have aq:∀t∈o.looksAt l.toArray,a.tmps.getD t undef=(Bt a0 ((l.take n).take i) (vs.take i)).tmps.getD t undef:=λt u=>by
   have H:=ab t u
   simp only[DE (a9 i o aw J af t u)]at H
   exact H.trans (aL i o hi t u)
  have aB:∀(W':Aj)(t:Nat),o.dst=some t->(match sp.lookup t with|some p=>p v W'|none=>v=(Bt a0 (l.take n) vs).tmps.getD t undef):=λW' t u=>by
   simp only[DE (L8 af u)]
   exact(a8 i o v t hi aO u).symm
  have aC:∀W',E W W'->XI C sp l.toArray n w (L.setIfInBounds i true) (a.put o.dst v) W':=λW' bi=>XI.step (λh=>av.size h) aJ J aQ ad bi (λd T V=>by rw[L8 af T]at V;cases V) an
  rcases ao with⟨H,U⟩|⟨H,U⟩
  refine .inl ⟨(EI aq).trans H,?_⟩
  unfold Oper.wp
  rw[(aa5 o aP (FT aq))]
  rcases U W ad with⟨W',O,Z⟩|⟨f,args,O,Z⟩
  rw[O]
  exact⟨v,rfl,aB W',Z,aC W' Z⟩
  rw[O,x7]
  exact Z.mono λe ax⟨ae,ak⟩=>by subst ae;exact⟨v,rfl,aB ax,ak,aC ax ak⟩
  subst U
  exact .inr ⟨(EI aq).trans H,aB W,aC W (av.refl W)⟩
 |true=>
  rw[zq af]at ao
  obtain⟨H,U⟩:=ao
  obtain⟨aR,aD,bj⟩:=OW af
  obtain⟨p,ac⟩:=JY.1 bj
  have aq:∀t∈o.looksAt l.toArray,a.tmps.getD t undef=(AQ (Bt a0 ((l.take n).take i) (vs.take i)) sp λt=>a.tmps.getD t undef).tmps.getD t undef:=λt u=>by
   rw[aM (Dp ..)]
   cases V:(sp.map Prod.fst).contains t with
   |true=>rw[zq rfl]
   |false=>
    have H:=ab t u
    simp only[DE V]at H
    exact H.trans (aL i o hi t u)
  have bk:Region.wanted o (yielded l.toArray a.tmps)=true:=by
   have O:=yn.1 aY i (zv.2 aw)
   rw[J]at O
   dsimp only at O
   rw[af]at O
   cases aS:o.guard with
   |none=>unfold Region.wanted;rw[aS]
   |some g=>rw[aS]at O;simp at O
  have aT:∀aa W',E W W'->p aa W'->C aR aa W W' W'->∃v,a.put o.dst aa=a.put o.dst v/\(∀t,o.dst=some t->match sp.lookup t with|some p=>p v W'|none=>v=(Bt a0 (l.take n) vs).tmps.getD t undef)/\E W W'/\XI C sp l.toArray n w (L.setIfInBounds i true) (a.put o.dst v) W':=λaa W' Z ae ak=>
   ⟨aa,rfl,λt u=>by rw[aD]at u;cases u;simp only[ac];exact ae,Z,XI.step (λh=>av.size h) aJ J aQ ad Z (λd T _=>by rw[aD]at T;cases T;exact ak) an⟩
  refine .inl ⟨bk,?_⟩
  unfold Oper.wp
  rw[aa5 o aP (FT aq)]
  rcases U aR p aD ac W (λt=>a.tmps.getD t undef) ad (λt q aE bn=>by
   have H:=ab t (by simpa using bn)
   simp only[aE]at H
   exact H) (by
   obtain⟨I,aF,aG⟩:=an
   have ag:∀t,(sp.map Prod.fst).contains t=true/\(o.looksAt l.toArray).contains t=true->Abt sp l.toArray n L t:=λt u=>by
    obtain⟨_,j,p,au,ac,T⟩:=am t u.1
    exact⟨u.1,j,p,au,ac,T,bd t (by simpa using u.2) j p au (by rw[List.getElem?_toArray]at ac;exact ac) T⟩
   exact⟨I,λt u=>aF t (ag t u),λt aj u aH al=>aG t aj (ag t u) (ag aj aH) al⟩)with⟨aa,W',O,Z,ae⟩|⟨f,args,O,Z⟩
  rw[O]
  exact aT aa W' Z ae.1 ae.2
  rw[O,x7]
  refine Z.mono λe ax⟨aa,ae,ak,aU⟩=>?_
  subst ae
  exact aT aa ax ak aU.1 aU.2
 have e:a=AQ (Bt a0 (l.take n) vs) sp λt=>a.tmps.getD t undef:=by
  refine QZ (by rw[J2,Dp];exact bh) (by rw[GQ,Fk];exact bf) λt=>?_
  rw[aM (Dp ..)]
  cases V:(sp.map Prod.fst).contains t with
  |true=>rw[zq rfl]
  |false=>
   have H:=ab t
   simp only[DE V]at H
   exact H
 have aI:=a1 w' (λt=>a.tmps.getD t undef) ad (λt q aE=>by
  have H:=ab t
  simp only[aE]at H
  exact H) (by
  obtain⟨I,aF,aG⟩:=an
  have ag:∀t,(sp.map Prod.fst).contains t=true->Abt sp l.toArray n L t:=λt u=>by
   obtain⟨_,j,o,au,J,T⟩:=am t u
   exact⟨u,j,o,au,J,T,be j au⟩
  exact⟨I,λt u=>aF t (ag t u),λt aj u aH al=>aG t aj (ag t u) (ag aj aH) al⟩)
 rw[<-e]at aI
 unfold wpOp
 rw[az n ay aK]
 unfold wpList at aI
 exact aI
 have V:(sp.map Prod.fst).contains t=false:=by
  cases V:(sp.map Prod.fst).contains t with
  |false=>rfl
  |true=>
   obtain⟨_,i,o,hi,J,T⟩:=am t V
   rw[List.getElem?_toArray]at J
   exact absurd T (u o (zm (by rw[xb,zq hi];exact J)))
 simp only[DE V]
 exact(DF _ _ _ u).symm
 simp[Array.getD]at ah
 simp[Array.getD]at ah
end
section
variable{E:World->World->Prop}{Q:Exit->Act->World->Prop}{S:Nat->Value->World->Prop}{w:World}{a0:Act}
theorem TX:prog.follows .mixedOrders=true:=AJ
def AiV(l:List Oper)(k:Nat):Bool:=Hi l.toArray l.length k&&Region.noSelect l.toArray
def PN(l:List Oper)(n k:Nat):Bool:=Hi l.toArray n k&&(Region.noSelect l.toArray&&MK l.toArray n)
def Afl(sp:GZ)(l:List Oper)(n k:Nat):Bool:=PN l n k&&(Jk l.toArray (sp.map Prod.fst) n k&&(List.range n).all λi=>match l.toArray[i]? with|none=>true|some o=>!CT sp o||o.guard.isNone)
theorem Is{l n k}(h:PN l n k=true):Hi l.toArray n k=true/\Region.noSelect l.toArray=true/\MK l.toArray n=true:=by simpa[PN]using h
theorem PD(af:Ht E){id l}(ag:AiV l a0.tmps.size=true) (h:Ru E prog l.toArray w (λa'=>∀W,E w W->Q .normal a' W) l a0):(Code.region id l.toArray true).wp prog Q a0 w:=by
 obtain⟨ac,ah⟩:=Bool.and_eq_true_iff.1 ag;obtain⟨vs,ad,aj,ak⟩:=KY l 0 a0 h;have H:∀i o,l[i]? =some o->l.toArray[i]? =some o/\i<l.length:=λi o hi=>⟨by rw[List.getElem?_toArray];exact hi,(zl.1 hi).1⟩;obtain⟨al,am⟩:=Lb (a0:=a0) (k:=0) rfl ad (λi o hi=>by rw[xv];exact H i o hi) ac;refine Abf af (S:=λt v _=>v=(Bt a0 l vs).tmps.getD t undef) TX ac (λ_ _ _ _ h _=>h) (λi o hi a W J O=>?_) (λa W J an ao O=>?_) λt u=>(DF l vs a0 u).symm;obtain⟨v,ae⟩:∃v,vs[i]? =some v:=⟨_,zr (by rw[ad];exact(H i o hi).2)⟩;have T:=λt u=>(O t u).trans (al i o hi t u);have U:=λt u=>(am i o v t hi ae u).symm;rcases ak i o v hi ae with⟨V,Z⟩|⟨V,Z⟩;refine .inl ⟨(EI T).trans V,?_⟩;unfold Oper.wp;rw[(aa5 o (λaq b=>aa0 ah i o aq b (H i o hi).1) (FT T))];rcases Z W J with⟨W',aa,ab⟩|⟨f,args,aa,ab⟩;rw[aa];exact⟨v,rfl,U,ab⟩;rw[aa,x7];exact ab.mono λe aw⟨au,av⟩=>by subst au;exact⟨v,rfl,U,av⟩
 exact .inr ⟨(EI T).trans V,λt u=>Z▸U t u⟩;rw[QZ (a:=a) (b:=Bt a0 l vs) (by rw[Dp];exact ao) (by rw[Fk];exact an) O];exact aj W J
theorem AL{id l}(u:AiV l a0.tmps.size=true) (h:Ach prog l.toArray w (λa'=>∀W,Ae w W->Q .normal a' W) l a0):(Code.region id l.toArray true).wp prog Q a0 w:=PD Dz u h
theorem Pe(o):CT [] o=false:=by unfold CT;cases o.dst<;>simp
theorem CA(J:Ht E){id n l H}(u:PN l n a0.tmps.size=true)(O:l.length=n+1)(T:l[n]? =some H) (h:Ru E prog l.toArray w (λa'=>∀W,E w W->wpList prog l.toArray Q [H] a' W) (l.take n) a0):(Code.region id l.toArray true).wp prog Q a0 w:=QX (C:=λ_ _ _ _ _=>True) (sp:=[]) J (λ_ _ _ _ _ _ h _=>h) TX (Is u).1 (Is u).2.1 O T (Is u).2.2 (by simp[Jk];intros;split<;>simp<;>split<;>rfl) (by simp;intros;split<;>simp[CT];split<;>simp) (λt p h=>by simp at h) (LI (λa h W σ U _ _=>h W U) (λk o v a h=>by unfold KK;rw[zo (by simp[Pe])];exact h) _ _ _ h)
theorem CO{id n l u}(H:PN l n a0.tmps.size=true)(J:l.length=n+1)(O:l[n]? =some u) (h:Ach prog l.toArray w (λa'=>∀W,Ae w W->wpList prog l.toArray Q [u] a' W) (l.take n) a0):(Code.region id l.toArray true).wp prog Q a0 w:=CA Dz H J O h
theorem WM{sp l n k}(h:Afl sp l n k=true):PN l n k=true/\Jk l.toArray (sp.map Prod.fst) n k=true/\((List.range n).all λi=>match l.toArray[i]? with|none=>true|some o=>!CT sp o||o.guard.isNone)=true:=by unfold Afl at h;rw[z4,z4]at h;exact h
theorem Ct(sp){id n l V}(u:Afl sp l n a0.tmps.size=true)(Z:l.length=n+1)(aa:l[n]? =some V)(ab:Hu sp) (h:Ae0 prog l.toArray w sp (λa'=>∀W σ,Ae w W->(∀t q,sp.lookup t=some q->q (σ t) W)->wpList prog l.toArray Q [V] (AQ a' sp σ) W) (l.take n) a0):(Code.region id l.toArray true).wp prog Q a0 w:=by obtain⟨u,hmx,ac⟩:=WM u;obtain⟨ad,ae,af⟩:=Is u;refine QX (C:=λ_ _ _ _ _=>True) (sp:=sp) Dz (λ_ _ _ _ _ _ h _=>h) TX ad ae Z aa af hmx ac ab (LI (λa h W σ H J _=>h W σ H J) (λk o v a h=>?_) _ _ _ h);unfold JJ at h;unfold KK;split at h;rename_i O;rw[zq O];refine⟨h.1,λt p ag ah W σ H J _=>?_⟩;rcases h.2 t p ag ah W σ H J with⟨v,W',T,U,aj⟩|⟨f,args,T,U⟩;exact .inl ⟨v,W',T,U,aj,trivial⟩;exact .inr ⟨f,args,T,U.mono λe w'⟨v,ak,al,am⟩=>⟨v,ak,al,am,trivial⟩⟩;rename_i O;rw[zo O];exact h
theorem Q5(C)(J:∀t v lo hi W W',C t v lo hi W->Ae W W'->C t v lo hi W')(sp){id n l H}(u:Afl sp l n a0.tmps.size=true)(O:l.length=n+1)(T:l[n]? =some H)(U:Hu sp) (h:AhV C prog l.toArray w sp (λa'=>∀W σ,Ae w W->(∀t q,sp.lookup t=some q->q (σ t) W)->Na C (λt=>(sp.map Prod.fst).contains t=true) σ w W->wpList prog l.toArray Q [H] (AQ a' sp σ) W) (l.take n) a0):(Code.region id l.toArray true).wp prog Q a0 w:=by obtain⟨u,hmx,V⟩:=WM u;obtain⟨Z,aa,ab⟩:=Is u;exact QX Dz J TX Z aa O T ab hmx V U h
end
def Mb(zf:Array Oper)(n m:Nat):Bool:=(List.range m).all λj=>decide (j<=n)||match zf[j]? with|some o=>o.after.any λe=>Region.binds .any e&&decide (n<=e.on)|none=>false
def AcA{zf n m j o}(h:Mb zf n m=true)(U:n<j)(O:j<m)(T:zf[j]? =some o):∃e∈o.after,Region.binds .any e=true/\n<=e.on:=by unfold Mb at h;have u:=yn.1 h j (zv.2 O);rw[T]at u;rw[abg,z8]at u;have H:=u.resolve_left Ad;dsimp only at H;obtain⟨i,hi,J⟩:=ab1.1 H;rw[z4,z8]at J;exact⟨_,ab2 hi,J⟩
def Oo(zf:Array Oper)(n:Nat)(fr:Nat->Bool):Bool:=(List.range n).all λi=>fr i||(List.range (n+1)).any λj=>decide (i<j)&&!(decide (j<n)&&fr j)&&match zf[j]? with|some o=>o.after.any λe=>Region.binds .any e&&e.on==i|none=>false
def AeU{zf n i fr}(h:Oo zf n fr=true)(hi:i<n)(V:fr i=false):∃j o e,i<j/\j<=n/\(j<n->fr j=false)/\zf[j]? =some o/\e∈o.after/\Region.binds .any e=true/\e.on=i:=by
 have O:=yn.1 h i (zv.2 hi);rw[V,aar]at O;obtain⟨j,T,u⟩:=y7.1 O;simp only[z4,z8]at u;have T:=zv.1 T;cases H:zf[j]? with
 |none=>rw[H]at u;cases u.2
 |some o=> rw[H]at u;obtain⟨k,Z,J⟩:=ab1.1 u.2;simp only[z4,x3]at J;exact⟨j,o,_,u.1.1,Ad,λaa=>by have U:=u.1.2;rw[zt aa,abl]at U;simpa using U,H,ab2 Z,J.1,J.2⟩
def Sy{zf n fr L J}(h:Oo zf n fr=true)(V:zf[n]? =some J)(Z:Xr zf L)(aa:∀e∈J.after,Region.binds .any e=true->L.getD e.on false=true):∀j,j<n->fr j=false->L.getD j false=true:=by
 have:∀k j,j<n->n-j<=k->fr j=false->L.getD j false=true:=by
  intro k;induction k with
  |zero=>intro j O ab;omega
  |succ k ac=> intro j O ab ad;obtain⟨u,ae,e,aj,ak,gf,H,T,U,af⟩:=AeU h O ad;rw[<-af];by_cases ag:u=n;subst ag;rw[V]at H;cases H;exact aa e T U;exact Z u ae H (ac u Ad Ad (gf Ad)) e T U
 exactλj ah=>this _ j ah (zs _)
section
variable{zf:Array Oper}{Q:Exit->Act->World->Prop}{w:World}{sp:GZ}{P:Value->World->Prop}{fr:Nat->Bool}{n m dk:Nat}{a0:Act}
structure Aht(Q)(zf)(fr:Nat->Bool)(n m)(oL)(b:Act)(w1)(bf):Prop where
 last:∀W,Ae w1 W->wpList prog zf Q [oL] bf W
 val:∀i o,n<i\/i<n/\fr i=true->i<m->zf[i]? =some o->∃u,Iu prog zf w1 o u bf/\∀s,o.dst=some s->bf.tmps.getD s undef=u
 defers:bf.defers=b.defers
 size:bf.tmps.size=b.tmps.size
structure Wl(w)(sp:GZ)(P:Aw->Aj->Prop)(Q)(zf:Array Oper)(fr)(n m)(oL)(b:Act)(L:Array Bool)(a:Act)(W):Prop where
 defers:a.defers=b.defers
 size:a.tmps.size=b.tmps.size
 one:L.getD n false=false->Ae w W/\∀t,(∀j o,j<n->zf[j]? =some o->o.dst=some t->L.getD j false=true)->match sp.lookup t with|some p=>p (a.tmps.getD t undef) W|none=>a.tmps.getD t undef=b.tmps.getD t undef
 two:L.getD n false=true->∃v w1 bf,P v w1/\Ae w1 W/\Aht Q zf fr n m oL b w1 bf/\∀t,(∀j o,j≠n->j<m->zf[j]? =some o->o.dst=some t->L.getD j false=true)->a.tmps.getD t undef=bf.tmps.getD t undef
theorem WK(Z:Mb zf n m=true)(aa:Hi zf m a0.tmps.size=true)(al:zf.size=m+1){L}(ab:Xr zf L){i o}(hi:n<i)(ac:i<m)(ad:zf[i]? =some o)(ae:∀e∈o.after,Region.binds .any e=true->L.getD e.on false=true):L.getD n false=true:=by
 have:∀k j p,n<j->j<=n+k->j<m->zf[j]? =some p->(∀e∈p.after,Region.binds .any e=true->L.getD e.on false=true)->L.getD n false=true:=by
  intro k;induction k with
  |zero=>intro j p u af;omega
  |succ k ag=> intro j p u af ah H aj;obtain⟨e,J,O,am⟩:=AcA Z u ah H;have T:=aj e J O;by_cases ak:e.on=n;rw[<-ak];exact T;have an:=(DL aa Ad H).1 e J O;obtain⟨U,V⟩:∃p,zf[e.on]? =some p:=⟨_,aau Ad⟩;exact ag e.on U Ad Ad Ad V (ab e.on U V T)
 exact this (i-n) i o hi Ad ac ad ae
theorem I2{w}{o:Oper}{v a b}(O:∀T b,o.op≠.select T b)(u:∀t∈o.looksAt zf,b.tmps.getD t undef=a.tmps.getD t undef)(h:Iu prog zf w o v a):Iu prog zf w o v b:=by rcases h with⟨H,J⟩|⟨H,J⟩;exact .inl ⟨(EI u).trans H,λW U=>by unfold AiO;rw[(aa5 o O (FT u))];exact J W U⟩;exact .inr ⟨(EI u).trans H,J⟩
theorem OO{w u o v a}(H:∀W,Ae u W->Cm w P W)(h:WL w P zf o v a):Iu prog zf u o v a:=h.imp (λ⟨J,O⟩=>⟨J,λW T=>let⟨W',U,V⟩:=O W (H W T);.inl ⟨W',U,V⟩⟩) id
theorem OD{i o v a W w K}(U:zf[i]? =some o)(V:Ae w W)(h:Iu prog zf w o v a)(u:∀W',Ae W W'->K (a.put o.dst v) W'):wpOp prog zf Q i K a W:=by
 unfold wpOp;simp only[U];rcases h with⟨H,J⟩|⟨H,J⟩;rw[zq H];refine .inl ?_;unfold Oper.wp;rcases J W V with⟨W',O,T⟩|⟨f,args,O,T⟩;rw[O];exact u W' T;rw[O,x7];exact T.mono λe Z⟨aa,ab⟩=>by subst aa;exact u Z ab
 rw[zo (by simp[H]),<-J];exact u W (Ae.refl W)
theorem QW(sp P fr){id n m dk:Nat}{l:List Oper}{V ag}(b0:prog.follows .mixedOrders=true)(al:Hi l.toArray m a0.tmps.size=true)(b1:Region.noSelect l.toArray=true)(b2:l.length=m+1)(aT:decide (n<m)=true)(b3:l[n]? =some V)(b4:l[m]? =some ag)(aO:V.dst=some dk)(bu:Oo l.toArray n fr=true)(bw:MK l.toArray m=true)(bx:Mb l.toArray n m=true)
 (hmx:Jk l.toArray (sp.map Prod.fst) n a0.tmps.size=true)(b5:((List.range n).all λi=>match l.toArray[i]? with|none=>true|some o=>!CT sp o||(o.guard.isNone&&!fr i))=true)(b6:Hu sp)
 (h:Ag4 w P l.toArray sp fr (λb=>(∀W σ,Ae w W->(∀t q,sp.lookup t=some q->q (σ t) W)->wpList prog l.toArray (Ph Q (AQ b sp σ) V.dst P) [V] (AQ b sp σ) W)/\
  ∀σ v ah,P v ah->FM prog l.toArray (λa'=>∀W,Ae ah W->wpList prog l.toArray Q [ag] a' W) ((l.take m).drop (n+1)) ((AQ b sp σ).put V.dst v)) (l.take n) a0):(Code.region id l.toArray true).wp prog Q a0 w:=by
 have aT:n<m:=of_decide_eq_true aT
 obtain⟨vs,bz,⟨b7,b8⟩,bA⟩:=KY _ _ _ h
 have b9:(l.take n).length=n:=by rw[ya];omega
 have aU:∀(i:Nat)(o:Oper),l[i]? =some o->l.toArray[i]? =some o:=λi o hi=>by rw[List.getElem?_toArray];exact hi
 have bB:∀(i:Nat)(o:Oper),l.toArray[i]? =some o->l[i]? =some o:=λi o hi=>by rwa[List.getElem?_toArray]at hi
 have bC:l.toArray.size=m+1:=by simpa using b2
 have bD:∀{i:Nat}{o:Oper},l.toArray[i]? =some o->i<=m:=λh=>by have:=(z6.1 h).1;omega
 have bE:∀(i:Nat)(o:Oper),(l.take n)[i]? =some o->l.toArray[i]? =some o/\i<m:=λi o hi=>by
  rw[xb]at hi
  split at hi
  exact⟨aU _ _ hi,Ad⟩
  cases hi
 have a6:∀(i:Nat)(o:Oper),i<n->l.toArray[i]? =some o->(l.take n)[i]? =some o/\∃v,vs[i]? =some v:=λi o hi H=>⟨by rw[xb,zq hi];exact bB _ _ H,_,zr (by rw[bz,b9];exact hi)⟩
 obtain⟨a7,bF⟩:=Lb (a0:=a0) (k:=0) rfl bz (λi o hi=>by rw[xv];exact bE i o hi) al
 have aD:∀(i:Nat)(o:Oper),l.toArray[i]? =some o->∀a8 b,o.op≠.select a8 b:=λi o H a8 b=>aa0 b1 i o a8 b H
 have aw:(Bt a0 (l.take n) vs).tmps.size=a0.tmps.size:=Dp ..
 have cc:(Bt a0 (l.take n) vs).defers=a0.defers:=Fk ..
 have ce:∀t,(∀o∈l.take n,o.dst≠some t)->(Bt a0 (l.take n) vs).tmps.getD t undef=a0.tmps.getD t undef:=λt=>DF _ _ _
 generalize cJ:Bt a0 (l.take n) vs=b at *
 have bG:∀(i:Nat)(o:Oper)(t j:Nat)(p:Oper),i<m->l.toArray[i]? =some o->t∈o.looksAt l.toArray->j<m->l.toArray[j]? =some p->p.dst=some t->j<i/\∃e∈o.after,Region.binds .any e=true/\e.on=j:=λi o t j p hi H J T O Z=>by
  obtain⟨d1,d23⟩:=DL al (aag hi) H
  obtain⟨e,aV,aW,a9⟩:=((d23 hi).2 j p t T O Z).1 J
  exact⟨by have:=d1 e aV aW;omega,e,aV,aW,a9⟩
 have bH:∀(i:Nat)(o:Oper)(t j:Nat)(p:Oper),i<m->l.toArray[i]? =some o->o.dst=some t->j<m->l.toArray[j]? =some p->p.dst=some t->i=j:=λi o t j p hi H J T O Z=>(((DL al (aag hi) H).2 hi).2 j p t T O Z).2 J
 have cf:∀(i:Nat)(o:Oper)(t:Nat),i<m->l.toArray[i]? =some o->o.dst=some t->t<a0.tmps.size:=λi o t hi H=>((DL al (aag hi) H).2 hi).1 t
 unfold Jk at hmx
 rw[z4]at hmx
 have aX:∀t,(sp.map Prod.fst).contains t=true->t<a0.tmps.size/\∃i o,i<n/\l.toArray[i]? =some o/\o.dst=some t:=λt J=>by
  have ac:=yn.1 hmx.1 t (by simpa using J)
  rw[z4,z8]at ac
  refine⟨ac.1,?_⟩
  obtain⟨i,hi,aa⟩:=y7.1 ac.2
  cases H:l.toArray[i]? with
  |none=>rw[H]at aa;cases aa
  |some o=>rw[H]at aa;exact⟨i,o,zv.1 hi,H,by simpa using aa⟩
 have bI:∀(i:Nat)(o:Oper),i<n->l.toArray[i]? =some o->CT sp o=false->∀t∈o.looksAt l.toArray,(sp.map Prod.fst).contains t=false:=λi o hi H aj t J=>by
  have ac:=yn.1 hmx.2 i (zv.2 hi)
  rw[H]at ac
  dsimp only at ac
  have aa:=aj
  unfold CT at aa
  rw[aa,aar]at ac
  cases ak:(sp.map Prod.fst).contains t with
  |false=>rfl
  |true=>
   have aE:=yn.1 ac t (by simpa using ak)
   rw[show(o.looksAt l.toArray).contains t=true by simpa using J]at aE
   cases aE
 have ba:∀(i:Nat)(o:Oper),i<n->l.toArray[i]? =some o->CT sp o=true->o.guard=none/\fr i=false:=λi o hi H aj=>by
  have aE:=yn.1 b5 i (zv.2 hi)
  rw[H]at aE
  dsimp only at aE
  rw[aj]at aE
  simpa using aE
 have cg:∀(t i:Nat)(o:Oper),(sp.map Prod.fst).contains t=true->i<m->l.toArray[i]? =some o->o.dst=some t->i<n/\fr i=false:=λt i o J hi H bJ=>by
  obtain⟨_,j,p,T,O,ch⟩:=aX t J
  obtain rfl:=bH i o t j p hi H bJ Ad O ch
  rw[H]at O
  cases O
  exact⟨T,(ba i o T H (by unfold CT;rw[bJ];exact J)).2⟩
 have bK:∀{σ:Nat->Aw}{t:Nat},(AQ b sp σ).tmps.getD t undef=if(sp.map Prod.fst).contains t then σ t else b.tmps.getD t undef:=Kd sp _ _ (λp O=>by rw[aw];exact(aX p.1 (by simpa using⟨p.2,O⟩)).1) _
 have ao:=aU n V b3
 have aP:=aU m ag b4
 have ci:∀σ v ah,P v ah->∃ax,Aht Q l.toArray fr n m ag b ah ax/\∀t,(∀j o,n<j->j<m->l.toArray[j]? =some o->o.dst≠some t)->ax.tmps.getD t undef=((AQ b sp σ).put V.dst v).tmps.getD t undef:=λσ v ah aq=>by
  obtain⟨bc,bL,cj,cm⟩:=Kk _ _ (b8 σ v ah aq)
  have bM:((AQ b sp σ).put V.dst v).tmps.size=a0.tmps.size:=(Gs ..).2.trans ((J2 ..).trans aw)
  have bd:∀i o,((l.take m).drop (n+1))[i]? =some o->l.toArray[n+1+i]? =some o/\n+1+i<m:=λi o hi=>by
   rw[aaj,xb]at hi
   split at hi
   exact⟨aU _ _ hi,by assumption⟩
   cases hi
  obtain⟨cn,co⟩:=Lb bM bL bd al
  have keep:∀t,(∀j o,n<j->j<m->l.toArray[j]? =some o->o.dst≠some t)->(Bt ((AQ b sp σ).put V.dst v) ((l.take m).drop (n+1)) bc).tmps.getD t undef=((AQ b sp σ).put V.dst v).tmps.getD t undef:=λt J=>DF _ _ _ λo H=>by
   obtain⟨j,T⟩:=z0 H
   exact J _ o Ad (bd j o T).2 (bd j o T).1
  refine⟨_,⟨cj,λi o hi aQ H=>?_,(Fk ..).trans ((Gs ..).1.trans (GQ ..)),(Dp ..).trans (bM.trans aw.symm)⟩,keep⟩
  rcases hi with hi|⟨hi,ay⟩
  have af:((l.take m).drop (n+1))[i-(n+1)]? =some o:=by rw[aaj,xb,zq Ad,show n+1+(i-(n+1))=i by omega];exact bB _ _ H
  obtain⟨u,bN⟩:∃u,bc[i-(n+1)]? =some u:=⟨_,zr (by rw[bL];exact(zl.1 af).1)⟩
  exact⟨u,I2 (aD i o H) (λt J=>cn _ o af t J) ((cm _ o u af bN).imp (λ⟨ac,aa⟩=>⟨ac,λW _=>.inl ⟨W,aa W,Ae.refl W⟩⟩) λh=>h),λs aj=>co _ o u s af bN aj⟩
  obtain⟨af,az,aF⟩:=a6 i o hi H
  have ad:=bA i o az af aF
  rw[xv]at ad
  have am:CT sp o=false:=by
   cases e:CT sp o with
   |false=>rfl
   |true=>rw[(ba i o hi H e).2]at ay;cases ay
  unfold In at ad
  rw[zo (by simp[am]),zq ay]at ad
  have bO:∀t,(sp.map Prod.fst).contains t=false->(∀j p,n<=j->j<m->l.toArray[j]? =some p->p.dst≠some t)->(Bt ((AQ b sp σ).put V.dst v) ((l.take m).drop (n+1)) bc).tmps.getD t undef=b.tmps.getD t undef:=λt J T=>by
   rw[keep t (λj p ac aa=>T j p Ad aa),C5 (T n V (zs _) aT ao),bK,J]
   rfl
  refine⟨az,I2 (aD i o H) (λt J=>?_) (OO (λW be=>.inr ⟨v,ah,aq,be⟩) ad),λs aj=>?_⟩
  rw[bO t (bI i o hi H am t J) (λj p ac aa O au=>by have:=(bG i o t j p aQ H J aa O au).1;omega)]
  exact a7 i o af t J
  rw[bO s (L8 am aj) (λj p ac aa O au=>by have:=bH i o s j p aQ H aj aa O au;omega)]
  exact bF i o az s af aF aj
 refine Rw (λL a W=>(L.getD m false=true->Q .normal a W)/\(L.getD m false=false->Wl w sp P Q l.toArray fr n m ag b L a W)) b0 (λi o H e au hb=>(DL al (bD H) H).1 e au hb) (λi o L a W H aj aA av aY aZ=>?_) (λL a W h aZ=>aZ.1 (h m Ad)) ⟨λh=>by simp[Array.getD]at h,λ_=>⟨cc.symm,aw.symm,λ_=>⟨(Ae.refl w).drew,λt J=>?_⟩,λh=>by simp[Array.getD]at h⟩⟩
 have bP:i<L.size:=by rw[aj];exact(z6.1 H).1
 by_cases aQ:i=m
 subst aQ
 have bQ:=Ml (λi hi=>My bw hi) aP av (by rw[aP]at H;cases H;exact aY)
 have ab:=aZ.2 aA
 obtain⟨v,ah,ax,bR,aB,an,aK⟩:=ab.two (bQ n aT)
 have cp:a=ax:=QZ (ab.size.trans an.size.symm) (ab.defers.trans an.defers.symm) λt=>aK t λj p _ T _ _=>bQ j T
 have ae:=an.last W aB
 rw[<-cp]at ae
 refine wpOp_mono (K:=λa' w'=>Q .normal a' w') (λa' w' h=>⟨λ_=>h,λe=>by simp[Array.getD,bP]at e⟩) ?_
 unfold wpOp
 rw[aP]
 unfold wpList at ae
 exact ae
 . have aG:i<m:=by have:=bD H;omega
   have bS:L.getD m false=false:=by
    cases e:L.getD m false with
    |false=>rfl
    |true=>
     rw[Ml (λi hi=>My bw hi) aP av (av m ag aP e) i aG]at aA
     cases aA
   have ab:=aZ.2 bS
   have bf:=cf i o
   have bh:∀t∈o.looksAt l.toArray,∀j p,j<m->l.toArray[j]? =some p->p.dst=some t->L.getD j false=true:=λt J j p T O Z=>by
    obtain⟨_,e,aV,aW,a9⟩:=bG i o t j p aG H J T O Z
    rw[<-a9]
    exact aY e aV aW
   have bT:∀t,o.dst≠some t->∀j p,l.toArray[j]? =some p->p.dst=some t->(L.setIfInBounds i true).getD j false=true->L.getD j false=true:=λt cq j p O Z cr=>by
    by_cases e:i=j
    subst e;rw[H]at O;cases O;exact absurd Z cq
    rwa[aaz false e]at cr
   have aL:∀a' W',Wl w sp P Q l.toArray fr n m ag b (L.setIfInBounds i true) a' W'->((L.setIfInBounds i true).getD m false=true->Q .normal a' W')/\((L.setIfInBounds i true).getD m false=false->Wl w sp P Q l.toArray fr n m ag b (L.setIfInBounds i true) a' W'):=λa' W' h=>⟨λe=>(by rw[aaz false aQ,bS]at e;cases e),λ_=>h⟩
   by_cases bi:i=n
   ·
    subst bi
    rw[ao]at H
    cases H
    obtain⟨aH,aR⟩:=ab.one aA
    have cs:∀t q,sp.lookup t=some q->q (a.tmps.getD t undef) W:=λt q aM=>by
     have ak:(sp.map Prod.fst).contains t=true:=JY.2 ⟨q,aM⟩
     have U:=aR t λj p T O Z=>(Sy bu ao av aY) j T (cg t j p ak Ad O Z).2
     rw[aM]at U
     exact U
    obtain⟨σ,bU⟩:∃σ:Nat->Aw,∀t,σ t=a.tmps.getD t undef:=⟨λt=>a.tmps.getD t undef,λ_=>rfl⟩
    have bV:∀t,(∀j p,j<i->l.toArray[j]? =some p->p.dst=some t->L.getD j false=true)->a.tmps.getD t undef=(AQ b sp σ).tmps.getD t undef:=λt J=>by
     rw[bK]
     cases ak:(sp.map Prod.fst).contains t with
     |true=>rw[zq rfl,bU]
     |false=>
      have U:=aR t J
      rw[DE ak]at U
      exact U
    have aI:∀t∈V.looksAt l.toArray,a.tmps.getD t undef=(AQ b sp σ).tmps.getD t undef:=λt J=>bV t λj p T O Z=>bh t J j p Ad O Z
    have ae:=b7 W σ aH (λt q aM=>by rw[bU];exact cs t q aM)
    have bW:=bf dk aG ao aO
    have ct:dk<a.tmps.size:=by rw[ab.size,aw];exact bW
    have aS:dk<(AQ b sp σ).tmps.size:=by rw[J2,aw];exact bW
    have next:∀v W',P v W'->Wl w sp P Q l.toArray fr i m ag b (L.setIfInBounds i true) (a.put V.dst v) W':=λv W' aq=>by
     obtain⟨ax,hF,hb⟩:=ci σ v W' aq
     refine⟨(Gs ..).1.trans ab.defers,(Gs ..).2.trans ab.size,λe=>by simp[Array.getD,bP]at e,λ_=>⟨v,W',ax,aq,Ae.refl W',hF,λt J=>?_⟩⟩
     rw[hb t (λj p ac aa O au=>by
      have U:=J j p Ad aa O au
      rw[aaz false Ad]at U
      rw[WK bx al bC av ac aa O (av j p O U)]at aA
      cases aA),aO,De ct,De aS]
     by_cases e:t=dk
     rw[zq e,zq e]
     rw[zo e,zo e]
     refine bV t λj p T O Z=>?_
     have U:=J j p Ad Ad O Z
     rwa[aaz false Ad]at U
    unfold wpOp
    simp only[ao]
    unfold wpList at ae
    rw[(EI aI)]
    split
    rename_i bj
    rw[zq bj]at ae
    rcases ae with ae|⟨ae,cu⟩
    . refine .inl (ZE (λ_ _ _ h=>h) RO (aa5 V (aD i V ao) (FT aI)) (ab.defers.trans (GQ ..).symm) (λa1 v w' cv=>?_) ae)
      obtain⟨az,aF,aq⟩:=(show∃az,(Act.put {tmps:=(AQ b sp σ).tmps,defers:=a1} V.dst v)=(AQ b sp σ).put V.dst az/\P az w' from cv)
      have bk:v=az:=by
       have:=aby (λx:Act=>x.tmps.getD dk undef) aF
       rw[aO]at this
       rw[De (a:={AQ b sp σ with defers:=a1}) aS,De aS,zq rfl,zq rfl]at this
       exact this
      have cx:a1=a.defers:=by
       have:=aby Act.defers aF
       rw[aO]at this
       exact(show a1=(AQ b sp σ).defers from this).trans ((GQ ..).trans ab.defers.symm)
      subst bk cx
      exact aL _ _ (next v w' aq)
    refine .inr ⟨?_,RO cu⟩
    unfold Oper.asks at ae⊢
    rw[aa5 V (aD i V ao) (FT aI)]
    exact ae
    rename_i bj
    rw[zo bj]at ae
    obtain⟨v,aF,aq⟩:=(show∃v,(AQ b sp σ).put V.dst undef=(AQ b sp σ).put V.dst v/\P v W from ae)
    have bk:undef=v:=by
     have:=aby (λx:Act=>x.tmps.getD dk undef) aF
     rw[aO,De aS,De aS,zq rfl,zq rfl]at this
     exact this
    rw[bk]
    exact aL _ _ (next v W aq)
   cases aJ:L.getD n false with
   |true=>
    obtain⟨v,ah,ax,bR,aB,an,aK⟩:=ab.two aJ
    have aN:n<i\/i<n/\fr i=true:=by
     by_cases g:n<i
     exact .inl g
     refine .inr ⟨Ad,?_⟩
     cases ay:fr i with
     |true=>rfl
     |false=>rw[Sy bu ao av (av n V ao aJ) i Ad ay]at aA;cases aA
    obtain⟨u,cy,cz⟩:=an.val i o aN aG H
    refine OD H aB (I2 (aD i o H) (λt J=>aK t λj p _ T O Z=>bh t J j p T O Z) cy) λW' aH=>aL _ _ ⟨(Gs ..).1.trans ab.defers,(Gs ..).2.trans ab.size,λe=>(by rw[aaz false bi,aJ]at e;cases e),λ_=>⟨v,ah,ax,bR,aB.trans aH,an,λt J=>?_⟩⟩
    by_cases e:o.dst=some t
    rw[e,De (by rw[ab.size,aw];exact bf t aG H e),zq rfl,cz t e]
    rw[C5 e]
    exact aK t λj p cA T O Z=>bT t e j p O Z (J j p cA T O Z)
   |false=>
    have bn:i<n:=by
     rcases aab i n with g|g
     exact g
     rw[WK bx al bC av Ad aG H aY]at aJ;cases aJ
    obtain⟨aH,aR⟩:=ab.one aJ
    have br:∀t∈o.looksAt l.toArray,match sp.lookup t with|some p=>p (a.tmps.getD t undef) W|none=>a.tmps.getD t undef=b.tmps.getD t undef:=λt J=>aR t λj p T O Z=>bh t J j p Ad O Z
    have next:∀v W',Ae W W'->(∀t,o.dst=some t->match sp.lookup t with|some p=>p v W'|none=>v=b.tmps.getD t undef)->Wl w sp P Q l.toArray fr n m ag b (L.setIfInBounds i true) (a.put o.dst v) W':=λv W' a5 aN=>by
     refine⟨(Gs ..).1.trans ab.defers,(Gs ..).2.trans ab.size,λ_=>⟨aH.trans a5,λt J=>?_⟩,λe=>by rw[aaz false bi,aJ]at e;cases e⟩
     by_cases e:o.dst=some t
     rw[e,De (by rw[ab.size,aw];exact bf t aG H e),zq rfl]
     exact aN t e
     rw[C5 e]
     have U:=aR t λj p T O Z=>bT t e j p O Z (J j p T O Z)
     cases bt:sp.lookup t with
     |none=>rw[bt]at U;exact U
     |some p=>rw[bt]at U;exact b6 t p bt _ _ _ U a5
    obtain⟨af,v,aN⟩:=a6 i o bn H
    have ad:=bA i o v af aN
    rw[xv]at ad
    unfold In at ad
    cases am:CT sp o with
    |false=>
     rw[zo (by simp[am])]at ad
     have aI:∀t∈o.looksAt l.toArray,a.tmps.getD t undef=(Bt a0 ((l.take n).take i) (vs.take i)).tmps.getD t undef:=λt J=>by
      have U:=br t J
      rw[DE (bI i o bn H am t J)]at U
      exact U.trans (a7 i o af t J)
     have cB:Iu prog l.toArray w o v (Bt a0 ((l.take n).take i) (vs.take i)):=by
      cases ay:fr i with
      |true=>rw[ay,zq rfl]at ad;exact OO (λW be=>.inl be) ad
      |false=>rw[ay,zo AG]at ad;exact ad
     refine OD H aH (I2 (aD i o H) aI cB) λW' a5=>aL _ _ (next v W' a5 λt J=>?_)
     rw[DE (L8 am J)]
     exact(bF i o v t af aN J).symm
    |true=>
     rw[zq am]at ad
     obtain⟨cC,bX,cD⟩:=OW am
     obtain⟨p,O⟩:=JY.1 cD
     have aI:∀t∈o.looksAt l.toArray,a.tmps.getD t undef=(AQ (Bt a0 ((l.take n).take i) (vs.take i)) sp λt=>a.tmps.getD t undef).tmps.getD t undef:=λt J=>by
      rw[Kd sp _ _ (λp O=>by rw[Dp];exact(aX p.1 (by simpa using⟨p.2,O⟩)).1)]
      cases ak:(sp.map Prod.fst).contains t with
      |true=>rw[zq rfl]
      |false=>
       have U:=br t J
       rw[DE ak]at U
       exact U.trans (a7 i o af t J)
     have bY:∀aC W',Ae W W'->p aC W'->Wl w sp P Q l.toArray fr n m ag b (L.setIfInBounds i true) (a.put o.dst aC) W':=λaC W' cE U=>next aC W' cE λt J=>by rw[bX]at J;cases J;rw[O];exact U
     unfold wpOp
     simp only[H]
     rw[zq (show Region.wanted o (yielded l.toArray a.tmps)=true by unfold Region.wanted;rw[(ba i o bn H am).1])]
     refine .inl ?_
     unfold Oper.wp
     rw[aa5 o (aD i o H) (FT aI)]
     rcases ad.2 cC p bX O W (λt=>a.tmps.getD t undef) aH (λt q aM cF=>by
      have U:=br t (by simpa using cF)
      rw[aM]at U;exact U)with⟨aC,W',aB,an,aK⟩|⟨f,args,aB,an⟩
     rw[aB]
     exact aL _ _ (bY aC W' an aK)
     rw[aB,x7]
     refine an.mono λe cG⟨aC,U,cH,cI⟩=>?_
     subst U
     exact aL _ _ (bY aC cG cH cI)
 have bZ:∀o∈l.take n,o.dst≠some t:=λo H au=>by
  obtain⟨j,T⟩:=z0 H
  have:=J j o (by have:=(zl.1 T).1;omega) (bE j o T).1 au
  simp[Array.getD]at this
 have ak:(sp.map Prod.fst).contains t=false:=by
  cases ak:(sp.map Prod.fst).contains t with
  |false=>rfl
  |true=>
   obtain⟨_,i,o,hi,H,al⟩:=aX t ak
   exact absurd al (bZ o (zm (a6 i o hi H).1))
 rw[DE ak]
 exact(ce t bZ).symm
end
section
variable{Q}{w}{a0}
theorem TW{One u Q E}(H:∀a,Q a->E a):∀l k a,(∀i o v a,l[i]? =some o->One (k+i) o v a->u (k+i) o v a)->DD One Q k l a->DD u E k l a
 |[],_,a,_,h=>H a h
 |o::l,k,a,J,⟨v,O,h⟩=>⟨v,J 0 o v a rfl O,TW H l _ _ (λi o v a hi h=>by have:=J (i+1) o v a (by simp_all);rw[show k+(i+1)=k+1+i by omega]at this;simp_all) h⟩
theorem Wt{One Q o}:∀l k a,DD One (λb=>∃v,One (k+l.length) o v b/\Q (b.put o.dst v)) k l a->DD One Q k (l++[o]) a
 |[],_,_,⟨v,u,E⟩=>⟨v,u,E⟩
 |p::l,k,a,⟨v,H,h⟩=>⟨v,H,Wt l _ _ (by rw[show k+(p::l).length=k+1+l.length by grind]at h;exact h)⟩
def AhI(sp:GZ)(u:Nat->Bool)(l:List Oper)(n m k:Nat):Bool:=PN l m k&&(decide (n<m)&&(Oo l.toArray n u&&(Mb l.toArray n m&&(Jk l.toArray (sp.map Prod.fst) n k&&(List.range n).all λi=>match l.toArray[i]? with|none=>true|some o=>!CT sp o||(o.guard.isNone&&!u i)))))
theorem Pt(sp P H){id n m dk:Nat}{l:List Oper}{u J}(E:AhI sp H l n m a0.tmps.size=true)(T:l.length=m+1)(U:l[n]? =some u)(V:l[m]? =some J)(Z:u.dst=some dk)(aa:Hu sp)
 (h:Ag4 w P l.toArray sp H (λb=>(∀W σ,Ae w W->(∀t q,sp.lookup t=some q->q (σ t) W)->wpList prog l.toArray (Ph Q (AQ b sp σ) u.dst P) [u] (AQ b sp σ) W)/\
  ∀σ v O,P v O->FM prog l.toArray (λa'=>∀W,Ae O W->wpList prog l.toArray Q [J] a' W) ((l.take m).drop (n+1)) ((AQ b sp σ).put u.dst v)) (l.take n) a0):(Code.region id l.toArray true).wp prog Q a0 w:=by
 unfold AhI at E
 simp only[z4]at E
 obtain⟨E,ab,ac,ad,hmx,ae⟩:=E
 obtain⟨af,ag,ah⟩:=Is E
 exact QW sp P H TX af ag T ab U V Z ac ah ad hmx ae aa h
theorem Ea(sp P){id n m dk:Nat}{l:List Oper}{u E}(J:AhI sp (λ_=>false) l n m a0.tmps.size=true)(O:l.length=m+1)(T:l[n]? =some u)(U:l[m]? =some E)(V:u.dst=some dk)(Z:Hu sp) (h:Ae0 prog l.toArray w sp (λb=>(∀W σ,Ae w W->(∀t q,sp.lookup t=some q->q (σ t) W)->wpList prog l.toArray (Ph Q (AQ b sp σ) u.dst P) [u] (AQ b sp σ) W)/\∀σ v H,P v H->FM prog l.toArray (λa'=>∀W,Ae H W->wpList prog l.toArray Q [E] a' W) ((l.take m).drop (n+1)) ((AQ b sp σ).put u.dst v)) (l.take n) a0):(Code.region id l.toArray true).wp prog Q a0 w:=by exact Pt sp P _ J O T U V Z (LI (λ_ h=>h) (λk o v a h=>by unfold JJ at h;unfold In;simp_all) _ _ _ h)
theorem Fr(P){id n dk:Nat}{l:List Oper}{u J}(O:PN l (n+1) a0.tmps.size=true)(T:l.length=n+2)(U:l[n]? =some u)(V:l[n+1]? =some J)(Z:u.dst=some dk) (h:T0 w P l.toArray (λb=>(∀W,Ae w W->wpList prog l.toArray (Ph Q b u.dst P) [u] b W)/\∀v E W,P v E->Ae E W->wpList prog l.toArray Q [J] (b.put u.dst v) W) (l.take n) a0):(Code.region id l.toArray true).wp prog Q a0 w:=by obtain⟨aa,ab,ac⟩:=Is O;refine QW [] P (λ_=>true) TX aa ab T AG U V Z (by simp[Oo]) ac ?_ ?_ ?_ Hu.nil (LI (λb h=>⟨λW σ H _=>h.1 W H,λσ v E ad=>?_⟩) (λ_ _ _ _ h=>h) _ _ _ h);unfold Mb;rw[yn];intro j ae;have:=zv.1 ae;rw[zt Ad,Bool.true_or];simp[Jk];intros;split<;>simp;simp[Pe];intros;split<;>rfl;have e:(l.take (n+1)).drop (n+1)=[]:=AG;rw[e];exactλW H=>h.2 v E W ad H
theorem GC(E P:Aw->Aj->Prop){id n db dk:Nat}{l:List Oper}{u J af}(ab:(PN l (n+2) a0.tmps.size&&(Oo l.toArray (n+1) (λi=>decide (i≠n))&&Jk l.toArray [db] (n+1) a0.tmps.size&&u.guard.isNone))=true)(ak:l.length=n+3)(O:l[n]? =some u)(al:l[n+1]? =some J)(am:l[n+2]? =some af)(T:u.dst=some db)(an:J.dst=some dk)(ao:∀v W W',E v W->Ae W W'->E v W') (h:T0 w P l.toArray (λb=>(Region.wanted u (yielded l.toArray b.tmps)=true/\∀W,Ae w W->∃v W',(execOp b.eval u).run prog W=.ok (.value v) W'/\Ae W W'/\E v W')/\(∀U W,Ae w W->E U W->wpList prog l.toArray (Ph Q (b.put u.dst U) J.dst P) [J] (b.put u.dst U) W)/\∀U v aa W,P v aa->Ae aa W->wpList prog l.toArray Q [af] ((b.put u.dst U).put J.dst v) W) (l.take n) a0):(Code.region id l.toArray true).wp prog Q a0 w:=by
 obtain⟨ab,ac⟩:=Bool.and_eq_true_iff.1 ab;obtain⟨ad,ag,aq⟩:=Is ab;have au:=TX;simp only[z4]at ac;have V:∀i o,l[i]? =some o->l.toArray[i]? =some o:=λi o hi=>by rw[List.getElem?_toArray];exact hi
 have aK:∀i o,l.toArray[i]? =some o->l[i]? =some o:=λi o hi=>by rwa[List.getElem?_toArray]at hi
 have aL:∀i o,i<n->l.toArray[i]? =some o->CT [(db,E)] o=false:=λi o hi ae=>by
  cases e:CT [(db,E)] o with
  |false=>rfl
  |true=>
   obtain⟨t,H,aM⟩:=OW e;obtain rfl:t=db:=by simp_all
   have:=(((DL ad Ad ae).2 Ad).2 n u t Ad (V _ _ O) T).2 H;omega
 have ah:∀(b:Act)(σ:Nat->Aw),AQ (b.put u.dst undef) [(db,E)] σ=b.put u.dst (σ db):=λb σ=>by rw[T];show((b.put (some db) undef).put (some db) (σ db))=_;unfold Act.put;simp
 have av:l.take (n+1)=l.take n++[u]:=by rw[abj,O];rfl
 have aN:(l.take n).length=n:=by rw[ya];omega
 refine QW [(db,E)] P (λi=>decide (i≠n)) (n:=n+1) (m:=n+2) au ad ag ak AG al am an ac.1.1 aq ?_ ac.1.2 ?_ (.cons ao .nil) ?_;unfold Mb;rw[yn];intro j aw;have:=zv.1 aw;rw[zt Ad,Bool.true_or];rw[yn];intro i hi;have hi:=zv.1 hi;cases ae:l.toArray[i]? with
 |none=>rfl
 |some o=> grind
 rw[av];refine Wt _ _ _ (TW (λb hb=>?_) _ _ _ (λi o v a hi h=>?_) h);obtain⟨⟨ax,ay⟩,az,aA⟩:=hb;refine⟨undef,?_,λW σ Z aB=>?_,λσ v aa aC=>?_⟩;unfold In;rw[zq (by unfold CT;rw[T];simp)];refine⟨ax,λt p H aj W σ Z _=>?_⟩;rw[T]at H;cases H;simp at aj;subst aj;obtain⟨v,W',aD,aE,aF⟩:=ay W Z;refine .inl ⟨v,W',?_,aE,aF⟩;rw[aa5 u (λaG b=>aa0 ag n u aG b (V _ _ O)) (FT (a:=AQ b [(db,E)] σ) (b:=b) (zf:=l.toArray) λt H=>C5 λe=>?_)];exact aD;cases e;obtain⟨d1,d3⟩:=DL ad Ad (V _ _ O);obtain⟨e,aH,aI,aO⟩:=((d3 Ad).2 n u db Ad (V _ _ O) T).1 H;have:=d1 e aH aI;omega;rw[ah];exact az _ W Z (aB db E AG);have e:(l.take (n+2)).drop (n+1+1)=[]:=AG;rw[e,ah];exactλW Z=>aA _ v aa W aC Z;have aJ:i<n:=by have:=(zl.1 hi).1;omega
 have ae:l.toArray[i]? =some o:=V i o (by rw[xb,zq aJ]at hi;exact hi);unfold In at h⊢;rw[zo (by simp[Pe]),zq rfl]at h;rw[zo (by grind),zq (by grind)];exact h
end
section
variable{zf:Array Oper}{Q:Exit->Act->World->Prop}{S:Nat->Value->World->Prop}{w0:World}{a0:Act}
abbrev Adz(zf:Array Oper)(Q:Exit->Act->Aj->Prop)(S:Nat->Aw->Aj->Prop)(w0:Aj)(o:Oper):Prop:=Ah0 Ae zf Q S w0 o
theorem Rj{id}{l:List Oper}{w}(S)(u:prog.follows .mixedOrders=true)(E:Hi l.toArray l.length a0.tmps.size=true) (H:∀t v w w',S t v w->Ae w w'->S t v w')(J:∀t,(∀o∈l,o.dst≠some t)->S t (a0.tmps.getD t undef) w)(O:∀o∈l,Adz l.toArray Q S w o) (T:∀a w',Ae w w'->a.defers=a0.defers->a.tmps.size=a0.tmps.size->(∀t,S t (a.tmps.getD t undef) w')->Q .normal a w'):(Code.region id l.toArray true).wp prog Q a0 w:=Abf Dz u E H (λ_ o hi=>O o (zm hi)) T J
theorem Ek{o:Oper}(E:List Nat)(J:(E.all λt=>(o.looksAt zf).contains t)=true) (g:Option (Nat×Bool))(u:(match o.guard with|none=>true|some (j,b)=>(match g with|some (k,b')=>b==b'&&E.contains k&&((zf[j]?).bind (·.dst)==some k)|none=>false))=true) (O:∀k b,g=some (k,b)->∀v w,S k v w->v=b) (h:∀K a w,(∀v w',(∀t,o.dst=some t->S t v w')->Ae w w'->K (a.put o.dst v) w')->Ae w0 w->(∀t∈E,S t (a.tmps.getD t undef) w)->o.wp prog a w K Q):Adz zf Q S w0 o:=by
 intro a w T U;have H:=λt V=>U t (by have:=(yn.1 J) t V;simpa using this);refine Or.inl ⟨?_,h _ a w (λv w' Z aa=>⟨v,rfl,Z,aa⟩) T H⟩;unfold Region.wanted;cases ab:o.guard with
 |none=>rfl
 |some p=>
  obtain⟨j,b⟩:=p;rw[ab]at u;cases g with
  |none=>simp at u
  |some q=> obtain⟨k,b'⟩:=q;simp only[z4,x3]at u;obtain⟨⟨rfl,ac⟩,ad⟩:=u;show(yielded zf a.tmps j==some b)=true;unfold yielded;rw[ad];show((match a.tmps[k]? with|some (.bool b)=>some b|_=>none)==some b)=true;rw[AbD (O k b rfl _ _ (H k (by simpa using ac)))];simp
end
def Kn(l:List Oper)(v:Nat->Aw)(t:Ck):Ck:=l.foldl (λt o=>match o.dst with|some d=>t.setIfInBounds d (v d)|none=>t) t
def KQ(o l v t):Kn (o::l) v t=Kn l v (match o.dst with|some d=>t.setIfInBounds d (v d)|none=>t):=rfl
def R5(v):∀l t,(Kn l v t).size=t.size
 |[],_=>rfl
 |o::l,t=>by rw[KQ,R5 v l];split;exact yr ..;rfl
def Tv(v){i:Nat}:∀(l:List Oper)(t),(∀o∈l,o.dst≠some i)->(Kn l v t)[i]? =t[i]?
 |[],_,_=>rfl
 |o::l,t,h=>by rw[KQ,Tv v l _ (λp u=>h p (yj _ u))];split;rename_i d E;rw[xd (λe=>h o (yx ..) (by rw[E,e]))];rfl
def Qn(v){i}:∀l t,t[i]? =some (v i)->(Kn l v t)[i]? =some (v i)
 |[],_,h=>h
 |o::l,t,h=>by rw[KQ];refine Qn v l _ ?_;split;rename_i d u;by_cases e:d=i;subst e;rw[ab7,zq (z6.1 h).1];rw[xd e];exact h;exact h
def WA(v){i:Nat}:∀(l:List Oper)(t),(∃o∈l,o.dst=some i)->i<t.size->(Kn l v t)[i]? =some (v i)
 |[],_,h,_=>by obtain⟨o,J,_⟩:=h;cases J
 |o::l,t,h,hi=>by rw[KQ];by_cases E:o.dst=some i;refine Qn v l _ ?_;rw[E];show(t.setIfInBounds i (v i))[i]? =_;rw[ab7,zq hi];refine WA v l _ ?_ ?_;obtain⟨p,u,H⟩:=h;rcases xl.1 u with e|u;subst e;exact absurd H E;exact⟨p,u,H⟩;split;rw[yr];exact hi;exact hi
def Ry{Q a0 id}{l:List Oper}{w}(S)(af:prog.follows .mixedOrders=true)(ag:Hi l.toArray l.length a0.tmps.size=true) (ah:∀t v w w',S t v w->Ae w w'->S t v w') (aj:∀t,(∀o∈l,o.dst≠some t)->S t (a0.tmps.getD t undef) w) (ak:∀o∈l,Adz l.toArray Q S w o) (al:∀v w',Ae w w'->(∀t,(∃o∈l,o.dst=some t)->S t (v t) w')->Q .normal {tmps:=Kn l v a0.tmps,defers:=a0.defers} w'):(Code.region id l.toArray true).wp prog Q a0 w:=by
 refine Rj (λt v w'=>S t v w'/\((∀o∈l,o.dst≠some t)->v=a0.tmps.getD t undef)) af ag (λt v V w2 h J=>⟨ah t v V w2 h.1 J,h.2⟩) (λt u=>⟨aj t u,λ_=>rfl⟩) (λo O=>?_) (λa w' J aa Z ab=>?_);intro a V J an;rcases ak o O a V J (λt u=>(an t u).1)with⟨E,T⟩|⟨E,T⟩;exact Or.inl ⟨E,Oper.wp_mono (λa' w'⟨v,e,ao,U⟩=>⟨v,e,λt u=>⟨ao t u,λH=>absurd u (H o O)⟩,U⟩) T⟩;exact Or.inr ⟨E,λt u=>⟨T t u,λH=>absurd u (H o O)⟩⟩;have e:a={tmps:=Kn l (λt=>a.tmps.getD t undef) a0.tmps,defers:=a0.defers}:=by
  have ac:a.tmps=Kn l (λt=>a.tmps.getD t undef) a0.tmps:=by
   apply acp;rw[R5,Z];intro i E T;have key:(Kn l (λt=>a.tmps.getD t undef) a0.tmps)[i]? =some a.tmps[i]:=by
    by_cases U:∃o∈l,o.dst=some i;rw[WA _ l _ U (by rw[<-Z];exact E)];simp[Array.getD,E];have H:=λo O aq=>U ⟨o,O,aq⟩;rw[Tv _ l _ H];have ad:i<a0.tmps.size:=by rw[<-Z];exact E
    have ae:=(ab i).2 H;simp only[Array.getD,E,ad,dif_pos]at ae;rw[aau ad];simpa using ae.symm
   have:=(z6.1 key).2;exact this.symm
  cases a;simp only at ac aa;rw[<-ac,aa]
 have:=al (λt=>a.tmps.getD t undef) w' J (λt _=>(ab t).1);rw[e];exact this
def KS(Q:Exit->Act->Aj->Prop):Exit->Act->Aj->Prop
 |.normal,a,w=>Q .normal a w
 |.outgrown,a,w=>Q .outgrown a w
 |_,_,_=>False
def AiQ{P zf Q a w}(h:Q .normal a w):wpList P zf (KS Q) [] a w:=h
def Qh{Q a w}(h:Q .normal a w):KS Q .normal a w:=h
def QA{Q}(h:LetsOut (KS Q)):LetsOut Q:=h
def PB(zf:Array Oper)(n:Nat):Bool:=(List.range zf.size).all λj=>decide (j<=n)||match zf[j]? with|some o=>o.after.any λe=>Region.binds .any e&&e.on==j-1|none=>false
def Og(zf:Array Oper)(n:Nat):Bool:=(List.range n).all λi=>match zf[i]? with
 |none=>true
 |some o=>(List.range zf.size).all λj=>decide (j<n)||match zf[j]? with
  |none=>true
  |some p=>match p.dst with|none=>true|some t=>!(o.looksAt zf).contains t
def Aab{zf n j o}(h:PB zf n=true)(J:n<j)(E:zf[j]? =some o):∃e∈o.after,Region.binds .any e=true/\e.on=j-1:=by unfold PB at h;have u:=yn.1 h j (zv.2 (z6.1 E).1);rw[zn Ad,aar,E]at u;dsimp only at u;rw[ab1]at u;obtain⟨x,H,hb⟩:=u;simp only[z4,x3]at hb;exact⟨_,ab2 H,hb.1,hb.2⟩
def Yh{zf}{n i j t:Nat}{o p}(h:Og zf n=true)(hi:i<n)(J:zf[i]? =some o)(V:n<=j)(E:zf[j]? =some p)(O:p.dst=some t):t∉o.looksAt zf:=by
 unfold Og at h;have H:=yn.1 h i (zv.2 hi);rw[J]at H;have u:=yn.1 H j (zv.2 (z6.1 E).1);rw[zn Ad,aar,E]at u;simp only[O]at u;intro T;have U:(o.looksAt zf).contains t=true:=by simpa using T
 rw[U]at u;cases u
section
variable{zf:Array Oper}{Q:Exit->Act->World->Prop}
theorem AeG{o a b w K H}(u:execOp a.eval o=execOp b.eval o)(J:a.defers=b.defers) (O:∀T v w',K ({b with defers:=T}.put o.dst v) w'->H ({a with defers:=T}.put o.dst v) w')(h:o.wp prog b w K (KS Q)):o.wp prog a w H Q:=by
 have E:=λv w' h=>by have:=O a.defers v w' (by rw[J];exact h);exact this
 unfold Oper.wp at *;rw[u];generalize(execOp b.eval o).run prog w=r at *;cases r with
 |ok n w'=>
  cases n<;>simp only[Oper.upon]at h⊢;exact E _ _ h;exact E _ _ h;all_goals first
   |exact(adl h (λe U u=>by cases e<;>first|exact E _ _ u|exact u.elim|exact QA u))
   |exact Rows.mono h (λ_ _ u=>E _ _ u)
   |(rw[J];exact O _ _ _ h)
 |halt x w'=>cases x<;>simp only[Oper.upon]at h⊢<;>exact h.elim
structure AiM(zf)(Q)(n)(vs:List Aw)(listed:Array Bool)(a:Act)(w):Prop where
 ex:∃(t:Nat)(b:Act),n+t<=zf.size/\(∀j,n<=j->j<zf.size->(listed.getD j false=true↔j<n+t))/\a.defers=b.defers/\a.tmps.size=b.tmps.size/\wpList prog zf (KS Q) (zf.toList.drop (n+t)) b w/\(∀s,(∀j o,zf[j]? =some o->o.dst=some s->listed.getD j false=true)->a.tmps.getD s undef=b.tmps.getD s undef)/\∀i o v,i<n->zf[i]? =some o->vs[i]? =some v->LG prog zf o v b/\∀s,o.dst=some s->b.tmps.getD s undef=v
theorem Nf{n av vs}(aP:vs.length=n)(aQ:n<=zf.size)(aj:QI zf av=true)(ak:Region.noSelect zf=true)(aw:PB zf n=true)(ax:Og zf n=true):∀(V)(u:Array Bool)(a:Act)(w:Aj),a.tmps.size=av->u.size=zf.size->KH u+V=zf.size->AiM zf Q n vs u a w->wpAny prog .any zf Q V u a w
 |0,u,a,w,af,O,aX,ay=>by
  have az:∀i,i<zf.size->u.getD i false=true:=λi hi=>TZ Ad i Ad;obtain⟨t,b,ag,aA,aY,aZ,aR,a1,bD⟩:=ay.ex;refine⟨?_,?_⟩;rw[acd];intro i hi;obtain⟨Z,o,E,_⟩:=ad0.1 hi;have aB:=(z6.1 E).1;have T:=az i aB;have aC:i<u.size:=Ad;simp only[Array.getD,aC,dif_pos]at Z T;rw[T]at Z;cases Z;have a5:n+t=zf.size:=by rcases aab (n+t) zf.size with h|h;have:=(aA (n+t) Ad h).1 (az _ h);omega;omega
  have a6:a=b:=by
   obtain⟨a7,a8⟩:=a;obtain⟨a9,ba⟩:=b;have bc:a7=a9:=by apply acp;exact aZ;intro s Z T;have:=a1 s (λj o U _=>az j (z6.1 U).1);simpa[Array.getD,Z,T]using this
   have ad:a8=ba:=aY;rw[bc,ad]
  rw[a5,abt AG]at aR;rw[a6];exact aR
 |V+1,u,a,w,af,O,aX,ay=>by
  refine⟨λbd=>?_,λi hi=>?_⟩;exfalso;have key:∀m,m<=zf.size->∀i,i<m->u.getD i false=true:=by
   intro m;induction m with
   |zero=>intro _ i hi;omega
   |succ m aS=>
    intro aD i hi;by_cases e:i<m;exact aS Ad i e;have e':i=m:=Ad;subst e';have aB:i<zf.size:=Ad;have be:i<u.size:=Ad;cases ah:u.getD i false with
    |true=>rfl
    |false=>
     have E:zf[i]? =some zf[i]:=aau aB;have aD:i∈Region.ready .any zf u:=by refine ad0.2 ⟨?_,_,E,λe aa hb=>aS Ad _ ((Jy aj E).1 e aa hb)⟩;simp[Array.getD,be]at ah⊢;exact ah
     rw[bd]at aD;cases aD
  have bE:KH u=u.size:=by
   unfold KH;have e:u.size=u.toList.length:=AG;rw[e,List.count_eq_length];intro b hb;obtain⟨j,U,rfl⟩:=List.mem_iff_getElem.1 hb;have bf:j<u.size:=by simpa using U
   have:=(key zf.size (zs _)) j Ad;simp only[Array.getD,bf,dif_pos]at this;rw[Array.getElem_toList];exact this.symm
  omega;obtain⟨ag,o,E,ae⟩:=ad0.1 hi;obtain⟨t,b,Z,T,aE,al,H,am,aF⟩:=ay.ex;have aC:=(z6.1 E).1;have aT:i<u.size:=Ad;have ah:u.getD i false=false:=by simp[Array.getD,aT]at ag⊢;exact ag
  obtain⟨d1,d2,d3⟩:=Jy aj E;have aU:∀s∈o.looksAt zf,a.tmps.getD s undef=b.tmps.getD s undef:=λs an=>am s (λj p U ao=>by obtain⟨e,aa,hb,bh⟩:=(d3 j p s U ao).1 an;rw[<-bh];exact ae e aa hb);have aG:=EI aU;have bi:∀ab b,o.op≠.select ab b:=λab b=>aa0 ak i o ab b E;have aa:=aa5 o bi (FT aU);have aV:∀s v,(∀j p,zf[j]? =some p->p.dst=some s->(u.setIfInBounds i true).getD j false=true)->o.dst=some s\/((o.dst≠some s)/\a.tmps.getD s undef=b.tmps.getD s undef/\(a.put o.dst v).tmps.getD s undef=b.tmps.getD s undef):=λs v h=>by by_cases e:o.dst=some s;exact .inl e;have:a.tmps.getD s undef=b.tmps.getD s undef:=am s (λj p U ao=>by have aA:=h j p U ao;by_cases ad:i=j;subst ad;rw[E]at U;cases U;exact absurd ao e;rwa[aaz false ad]at aA);exact .inr ⟨e,this,by rw[C5 e];exact this⟩
  by_cases bj:i<n
  . obtain⟨v,bk⟩:∃v,vs[i]? =some v:=⟨_,zr Ad⟩;obtain⟨aH,aI⟩:=aF i o v bj E bk;have next:wpAny prog .any zf Q V (u.setIfInBounds i true) (a.put o.dst v) w:=by
     refine Nf aP aQ aj ak aw ax V _ _ _ ?_ (by rw[yr];exact O) (by rw[Pr ag];omega) ⟨t,b,Z,λj aJ aK=>?_,?_,?_,H,λs aL=>?_,aF⟩;rw[<-af];unfold Act.put;split;exact yr ..;rfl;rw[aaz false Ad];exact T j aJ aK;rw[<-aE];unfold Act.put;split<;>rfl;rw[<-al];unfold Act.put;split;exact yr ..;rfl;rcases aV s v aL with e|⟨_,_,e⟩;have aq:s<a.tmps.size:=by rw[af];exact d2 s e
     rw[e,De aq,zq rfl,aI s e];exact e
    unfold wpOp;simp only[E];rcases aH with⟨aM,aN⟩|⟨aM,aN⟩
    . rw[aG,zq aM];refine .inl ?_;unfold Oper.wp;rw[aa,aN w];exact next
    rw[aG,zo (by simp[aM]),<-aN];exact next
  . have hit:i=n+t:=by
     have bF:¬i<n+t:=λh=>by rw[(T i Ad aC).2 h]at ah;cases ah
     rcases aab (n+t) i with h|h;exfalso;obtain⟨e,bn,br,bt⟩:=Aab aw Ad E;have:=ae e bn br;rw[bt]at this;have:=(T (i-1) Ad Ad).1 this;omega;omega
    have bu:zf.toList.drop (n+t)=o::zf.toList.drop (n+(t+1)):=by
     have bw:n+t<zf.toList.length:=by rw[Array.length_toList];omega
     rw[y8 bw];congr 1;rw[Array.getElem_toList];rw[hit]at E;exact(z6.1 E).2
    rw[bu]at H;have next:∀J v w',wpList prog zf (KS Q) (zf.toList.drop (n+(t+1))) ({b with defers:=J}.put o.dst v) w'->wpAny prog .any zf Q V (u.setIfInBounds i true) ({a with defers:=J}.put o.dst v) w':=λJ v w' h=>by
     refine Nf aP aQ aj ak aw ax V _ _ _ ?_ (by rw[yr];exact O) (by rw[Pr ag];omega) ⟨t+1,_,Ad,λj aJ aK=>?_,?_,?_,h,λs aL=>?_,λaO ac bx aW au bz=>?_⟩;show({a with defers:=J}.put o.dst v).tmps.size=av;rw[<-af];unfold Act.put;split;exact yr ..;rfl;by_cases e:i=j;subst e;exact⟨λ_=>Ad,λ_=>by simp[Array.getD,aT]⟩;rw[aaz false e,T j aJ aK];omega;unfold Act.put;split<;>rfl;unfold Act.put;split;show(a.tmps.setIfInBounds _ v).size=(b.tmps.setIfInBounds _ v).size;rw[yr,yr];exact al;exact al;rcases aV s v aL with e|⟨e,ad,_⟩;have aq:s<a.tmps.size:=by rw[af];exact d2 s e
     rw[e,De (a:={a with defers:=J}) aq,zq rfl,De (a:={b with defers:=J}) (by rw[<-al];exact aq),zq rfl];rw[C5 (a:={a with defers:=J}) e,C5 (a:={b with defers:=J}) e];exact ad;obtain⟨aH,aI⟩:=aF aO ac bx aW au bz;have bA:∀s∈ac.looksAt zf,o.dst≠some s:=λs O e=>Yh ax aW au Ad E e O;have an:∀s∈ac.looksAt zf,({b with defers:=J}.put o.dst v).tmps.getD s undef=b.tmps.getD s undef:=λs O=>by rw[C5 (a:={b with defers:=J}) (bA s O)]
     refine⟨?_,λs O=>?_⟩;have bB:∀ab b,ac.op≠.select ab b:=λab b=>aa0 ak aO ac ab b au;unfold LG;rw[EI an,aa5 ac bB (FT an)];exact aH;rw[C5 (a:={b with defers:=J}) (λe=>?_)];exact aI s O;have:=(d3 aO ac s au O).2 e;omega
    have bC:∀v w',wpList prog zf (KS Q) (zf.toList.drop (n+(t+1))) (b.put o.dst v) w'->wpAny prog .any zf Q V (u.setIfInBounds i true) (a.put o.dst v) w':=λv w' h=>next a.defers v w' (by rw[aE];exact h)
    unfold wpList at H;unfold wpOp;simp only[E];rw[aG];split;rename_i ae;rw[zq ae]at H;rcases H with H|⟨H,am⟩
    . exact .inl (AeG aa aE next H)
    refine .inr ⟨?_,QA am⟩;unfold Oper.asks at H⊢;rw[aa];exact H;rename_i ae;rw[zo ae]at H;exact bC _ _ H
theorem Ri{w a0 id}(n){l:List Oper}(ag:prog.follows .mixedOrders=true)(T:QI l.toArray a0.tmps.size=true)(ad:Region.noSelect l.toArray=true)(U:decide (n<=l.length)=true) (ah:PB l.toArray n=true)(aj:Og l.toArray n=true) (h:FM prog l.toArray (λa'=>∀W,Ae w W->W.heap=w.heap->wpList prog l.toArray (KS Q) (l.drop n) a' W) (l.take n) a0):(Code.region id l.toArray true).wp prog Q a0 w:=by
 have U:n<=l.length:=by simpa using U
 obtain⟨vs,Z,ak,al⟩:=Kk (l.take n) a0 h;have am:(l.take n).length=n:=by rw[ya];omega
 have H:∀i o,(l.take n)[i]? =some o->l.toArray[i]? =some o/\i<n:=λi o hi=>by rw[xb]at hi;split at hi;exact⟨by rw[List.getElem?_toArray];exact hi,by assumption⟩;cases hi
 have an:∀i o,(l.take n)[i]? =some o->∀t∈o.looksAt l.toArray,∀p∈(l.take n).drop i,p.dst≠some t:=λi o hi t u p aa J=>by obtain⟨j,E⟩:=z0 aa;rw[aaj]at E;obtain⟨d1,_,d3⟩:=Jy T (H i o hi).1;obtain⟨e,ao,aq,aA⟩:=(d3 (i+j) p t (H _ _ E).1 J).1 u;have:=d1 e ao aq;omega
 have ae:∀i,Bt a0 (l.take n) vs=Bt (Bt a0 ((l.take n).take i) (vs.take i)) ((l.take n).drop i) (vs.drop i):=λi=>by rw[<-IW _ _ _ _ _ (by rw[ya,ya (l:=vs),Z]),xt,xt]
 have au:∀i o,(l.take n)[i]? =some o->∀t∈o.looksAt l.toArray,(Bt a0 (l.take n) vs).tmps.getD t undef=(Bt a0 ((l.take n).take i) (vs.take i)).tmps.getD t undef:=λi o hi t u=>by rw[ae i,DF _ _ _ (an i o hi t u)]
 have av:∀(i:Nat)(o:Oper)(v:Aw)(t:Nat),(l.take n)[i]? =some o->vs[i]? =some v->o.dst=some t->(Bt a0 (l.take n) vs).tmps.getD t undef=v:=λi o v t hi V u=>by
  have aw:(l.take n).take (i+1)=(l.take n).take i++[o]:=by rw[abj,hi];rfl
  have ax:vs.take (i+1)=vs.take i++[v]:=by rw[abj,V];rfl
  rw[ae (i+1),DF];rw[aw,ax,IW _ _ _ _ _ (by rw[ya,ya (l:=vs),Z])];show((Bt a0 ((l.take n).take i) (vs.take i)).put o.dst v).tmps.getD t undef=v;rw[u,De (by rw[Dp];exact((Jy T (H i o hi).1).2.1 t u)),zq rfl];intro p aa J;obtain⟨j,E⟩:=z0 aa;rw[aaj]at E;have:=((Jy T (H i o hi).1).2.2 (i+1+j) p t (H _ _ E).1 J).2 u;omega
 refine wp_region_any ag (Nf (n:=n) (vs:=vs) (by rw[Z,am]) (by simpa using U) T ad ah aj _ _ _ _ rfl AG (by simp[KH,List.count_replicate]) ⟨0,Bt a0 (l.take n) vs,by simpa using U,λj aB aC=>?_,(Fk _ _ _).symm,(Dp _ _ _).symm,?_,λs ab=>?_,λi o v ay O V=>?_⟩);simp[Array.getD];omega;simpa using ak w.drew (Ae.refl w).drew rfl;refine(DF _ _ _ (λo O J=>?_)).symm;obtain⟨j,E⟩:=z0 O;have:=ab j o (H j o E).1 J;simp[Array.getD]at this;have hi:(l.take n)[i]? =some o:=by rw[xb,zq ay];rw[List.getElem?_toArray]at O;exact O
 refine⟨?_,λs ab=>av i o v s hi V ab⟩;have af:∀t∈o.looksAt l.toArray,(Bt a0 (l.take n) vs).tmps.getD t undef=(Bt a0 ((l.take n).take i) (vs.take i)).tmps.getD t undef:=au i o hi;have az:∀ac b,o.op≠.select ac b:=λac b=>aa0 ad i o ac b O;unfold LG;rw[EI af,aa5 o az (FT af)];exact al i o v hi V
end
