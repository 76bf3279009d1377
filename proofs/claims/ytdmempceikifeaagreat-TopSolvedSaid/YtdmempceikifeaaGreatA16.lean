import Derived.Test.YtdmempceikifeaaGreatShelf
import Derived.Test.YtdmempceikifeaaGreatA09
import Derived.Test.YtdmempceikifeaaGreatA12
import Derived.LoopIn
import Derived.LoopNIn
import Derived.OwnWalkIn
import Derived.RangeFuncBound
import Derived.RangeFuncCalls
import Derived.RangeFuncLeaves
import Derived.RangeFuncNested
import Derived.Shelf.Abstract
import Derived.Shelf.RegionOpen
import Derived.Sort.OwnSorted
import Derived.TacticsInMore
set_option maxRecDepth 100000
set_option maxHeartbeats 16000000
set_option linter.all false
namespace Go.Proofs.YtdmempceikifeaaGreat
open Go.RowKit Tryz
section
open Go.Maps
section
variable{w w':World}{b k:Nat}{f:Int->Option Value}
theorem CB.eJ(h:CB w b k f)(Z:k<=1000000000000000000)(x:Int)(y:Aw)(E:-9223372036854775808<=x/\x<=Bh):∃w',(Instr.mapUpdate 190 (.map (some b)) x y).run prog w=.ok () w'/\CB w' b (k+1) (λz=>if z=x then some y else f z)/\w.grownBy w' (some b):=by obtain⟨D,H,u,J⟩:=h;obtain⟨w',hrun,O,T⟩:=H.update DZ underlying190 (by unfold maxLen;omega) (keyOf_int_mk underlying3 (C2 E)) (d:=.held y) (ps:=[]) rfl;refine⟨w',hrun,⟨_,O,?_,λz U V=>?_⟩,T⟩;obtain⟨aa,rfl⟩:=u;exact⟨_,rfl⟩;dsimp only;by_cases e:z=x;subst e;rw[zq rfl,atKey_put_same u (by trivial),has_put_same u (by trivial)];exact⟨rfl,rfl⟩;rw[zo e,atKey_put_other (λh=>e (by injection h)),has_put_other (λh=>e (by injection h))];exact J z U V
theorem CB.eT(h:CB w b k f)(x:Int)(E:-9223372036854775808<=x/\x<=Bh)(u:TypeId):∃w',(Builtin.delete_ #[190,3] u #[.map (some b),x]).run prog w=.ok (.tuple #[]) w'/\CB w' b k (λz=>if z=x then none else f z)/\w.grownBy w' (some b):=by obtain⟨D,H,J,O⟩:=h;obtain⟨w',hrun,T,U⟩:=H.drop DZ underlying190 (keyOf_int_mk underlying3 (C2 E)) u;refine⟨w',hrun,⟨_,T,?_,λz V Z=>?_⟩,U.grown⟩;obtain⟨aa,rfl⟩:=J;exact⟨_,rfl⟩;dsimp only;by_cases e:z=x;subst e;rw[zq rfl,atKey_del_same,has_del_same];exact⟨rfl,rfl⟩;rw[zo e,atKey_del_other (λh=>e (by injection h)),has_del_other (λh=>e (by injection h))];exact O z V Z
theorem CB.dO(h:CB w b k f)(x:Int)(E:-9223372036854775808<=x/\x<=Bh)(ok:Bool):(Instr.lookup 190 (.map (some b)) x ok).run prog w=.ok (if ok then .tuple #[(f x).getD Ik,.bool (f x).isSome]else(f x).getD Ik) w:=by
 obtain⟨D,H,_,O⟩:=h;obtain⟨T,J⟩:=O x E.1 E.2;have key:∀v ps,YU v=some (DataW.held ((f x).getD Ik),ps)->v=(f x).getD Ik:=λv ps u=>by unfold YU at u;injection u with u;injection u with u _;injection u
 cases ok with
 |true=> obtain⟨v,ps,hrun,u⟩:=H.look_ok DZ underlying190 (z:=Ik) AJ (zd:=.held Ik) (zp:=[]) rfl (keyOf_int_mk underlying3 (C2 E));rw[J]at u;rw[hrun,T,key v ps u];rfl
 |false=> obtain⟨v,ps,hrun,u⟩:=H.lookup DZ underlying190 (z:=Ik) AJ (zd:=.held Ik) (zp:=[]) rfl (keyOf_int_mk underlying3 (C2 E));rw[J]at u;rw[hrun,key v ps u];rfl
end
def VQ(w:Aj){zf:Array Oper}{rest:List Oper}{o:Oper}{a:Act}{Q:Exit->Act->Aj->Prop}(u:o.guard=none)(m x:Operand)(E:o.op=Op.call {callee:=Callee.builtin Builtin.delete,args:=#[m,x],argTypes:=#[190,3]}) (b k:Nat)(f:Int->Option Aw)(H:a.eval m=.map (some b))(J:CB w b k f)(y:Int)(O:a.eval x=y)(T:-9223372036854775808<=y/\y<=Bh) (U:∀w',CB w' b k (λz=>if z=y then none else f z)->w.grownBy w' (some b)->wpList prog zf Q rest (a.put o.dst (.tuple #[])) w'):wpList prog zf Q (o::rest) a w:=by refine x5 u λac V=>?_;obtain⟨w',hrun,Z,aa⟩:=J.eT y T o.type;unfold Oper.wp;simp[execOp,E,resolve,invoke,builtin,H,O,hrun,Result.andThen];exact V _ _ (U w' Z aa)
def Ub(p b:Nat)(j:Nat):Prop:=j=p\/j=b
def L0(w:Aj):Option Aw->Option An->Prop
 |none,none=>True
 |some u,some xs=>Ay w 0 u xs
 |_,_=>False
def L0.imp{w w':Aj}{o:Option Aw}{q:Option An}(h:L0 w o q)(E:∀u xs,Ay w 0 u xs->Ay w' 0 u xs):L0 w' o q:=by cases o<;>cases q;trivial;exact h.elim;exact h.elim;exact E _ _ h
def Gz(w:Aj)(b:Nat)(n:Int)(R:List (Int×An)):Prop:=∃(k:Nat)(f:Int->Option Aw),(k:Int)<=n/\CB w b k f/\∀x,L0 w (f x) (C8 R x)
structure EE(w:Aj)(p b:Nat)(S:Ey):Prop where
 J:Aq w p 192 #[.map (some b),S.last,S.done]
 map:Gz w b S.last S.rows
def Gz.ext{w w':Aj}{b:Nat}{n:Int}{R:List (Int×An)}(h:Gz w b n R)(u:Ae w w'):Gz w' b n R:=by obtain⟨k,f,E,H,J⟩:=h;exact⟨k,f,E,H.ext u,λx=>(J x).imp λ_ _ a=>a.ext u⟩
def EE.ext{w w':Aj}{p b:Nat}{S:Ey}(h:EE w p b S)(u:Ae w w'):EE w' p b S:=⟨h.J.ext u,h.map.ext u⟩
def EE.ne{w:Aj}{p b:Nat}{S:Ey}(h:EE w p b S):b≠p:=let⟨_,_,_,u,_⟩:=h.map;u.ai h.J
def Gz.at{w:Aj}{b:Nat}{n:Int}{R:List (Int×An)}(h:Gz w b n R)(T:∀p∈R,p.2.length<=1000/\∀x∈p.2,-100000<=x/\x<=100000)(x:Int)(U:-9223372036854775808<=x/\x<=Bh)(ok:Bool):∃A m c,(Instr.lookup 190 (.map (some b)) x ok).run prog w=.ok (if ok then .tuple #[.slice A m c,.bool (C8 R x).isSome]else .slice A m c) w/\AB w A m ((C8 R x).getD [])/\m<=1000/\m<=c:=by obtain⟨k,f,_,V,Z⟩:=h;have E:=V.dO x U ok;have e:=Z x;cases H:f x<;>cases J:C8 R x<;>rw[H,J]at e;rw[H]at E;exact⟨none,0,0,E,AB.nil w,Ax,Ax⟩;exact e.elim;exact e.elim;rename_i u xs;have aa:xs.length<=1000/\∀y∈xs,-100000<=y/\y<=100000:=T _ (L6 J);obtain⟨ae,ab⟩:=aa;obtain⟨A,m,c,rfl,O,ac⟩:=Ay.aQ e Ad (λy ad=>by have:=ab y ad;omega);rw[H]at E;exact⟨A,m,c,E,O,by have af:xs.length=m:=O.1;omega,ac⟩
def ZW(w:Aj)(p b:Nat)(S:Ey)(h:EE w p b S):AC 104 #[.pointer p] w λe w'=>e=.returned true/\w=w':=by have u:=h.J.cell 0;have E:=λW=>run_neq_map_nil (P:=prog) W 190 3 86 (some b) underlying190;go_enter func104,ntmps104;go_wp2;go_ret;exact⟨rfl,rfl⟩
def AhN(w:Aj)(p b:Nat)(S:Ey)(h:EE w p b S):AC 42 #[.pointer p] w λe w'=>e=.returned S.done/\w=w':=by
 have u:=h.J.cell 2;go_enter func42,ntmps42;go_wp2_with fail
 refine(ZW w p b S h).mono ?_;rintro e w'⟨rfl,rfl⟩;go_wp2_with fail
 go_ret;exact⟨rfl,rfl⟩
def Z8{R:List (Int×An)}{i:Int}{l:An}(h:C8 R i=none)(x:Int):C8 (R++[(i,l)]) x=if x=i then some l else C8 R x:=by
 unfold C8 at *;rw[adc]at h;rw[aci];by_cases e:x=i;subst e;rw[zq rfl,h];simp;rw[zo e];have:([(i,l)]:List (Int×An)).find? (λp=>p.1==x)=none:=by simp;exactλh=>e h.symm
 rw[this,Option.or_none]
def Ad7{R:List (Int×An)}{i n:Int}(h:∀p∈R,p.1<=n)(hi:n<i):C8 R i=none:=by unfold C8;rw[adc,y6];intro p u;have:=h p u;simp;omega
def Gz.put{w w2:Aj}{b k:Nat}{n i:Int}{f:Int->Option Aw}{R:List (Int×An)}{v:Aw}{l:An}(V:(k:Int)<=n)(E:CB w b k f)(H:∀x,L0 w (f x) (C8 R x)) (J:Ay w 0 v l)(O:CB w2 b (k+1) (λu=>if u=i then some v else f u))(T:w.grownBy w2 (some b))(hi:n<i)(U:C8 R i=none):Gz w2 b i (R++[(i,l)]):=by have keep:∀{u:Aw}{xs:An},Ay w 0 u xs->Ay w2 0 u xs:=λh=>h.kept T (Or.inr (yb (E.bq h)));refine⟨k+1,_,Ad,O,λx=>?_⟩;rw[Z8 U];by_cases e:x=i;rw[zq e,zq e];exact keep J;rw[zo e,zo e];exact(H x).imp λ_ _ a=>keep a
def Gz.cell{w:Aj}{b g i:Nat}{n:Int}{R:List (Int×An)}{t:TypeId}{H:Ck}(h:Gz w b n R)(hb:Aq w g t H)(J:3≠t)(u:Aw):Gz (w.setCell ⟨g,i,none⟩ u) b n R:=by obtain⟨k,f,O,E,T⟩:=h;exact⟨k,f,O,E.keep (yt w _ u b (E.ai hb)),λx=>(T x).imp λ_ _ a=>a.setCell (λk U e=>by subst e;exact a.ai hb J U) u⟩
def NI(w w':Aj)(p b:Nat)(S:Ey):Prop:=EE w' p b S/\Au (Ub p b) w w'
def AeW(w:Aj)(p b:Nat)(S:Ey)(i:Int)(A:AD)(n c:Nat)(l:An)(h:EE w p b S)(hi:Dj S)(U:AB w A n l)(ad:S.last<i)(aD:i<=10000000)(aE:n<=1000):AC 103 #[.pointer p,i,.slice A n c] w λe w'=>e=.returned (.tuple #[])/\NI w w' p b (KC S i l):=by
 have aF:=hi.low;have ak:=zk (Ad7 (R:=S.rows) (λq al=>(hi.ids q al).2) ad);have am:=h.ne;have ae:w.drew.cell? p=some (.map (some b)):=h.J.cell 0;have an:=h.map;have ao:=h.J;have V:(Ae w w.drew):=(Ae.refl w).drew;have aq:=U.ext V;have au:=zk U.1;clear h U hi;obtain⟨k,f,av,af,aw⟩:=an;have aG:k<=10000000:=Ad;skip;go_enter func103,ntmps103;go_wp2;go_region_law ((first |(go_simp;(with_reducible refine(Fm _ _ _ l _ aq Ad).mono ?_);rintro e aH⟨v4,rfl,ax,E⟩;have ay:=E.cell ae;obtain⟨az,aA,ag,Z⟩:=(af.ext (V.trans E)).eJ Ad i v4 Ad;have H:=V.trans E;have J:=(ao.ext H).grown Z (λe=>am (by cases e;rfl));have O:=zk J;clear E)))
 all_goals
  clear aA ae ay;have d1:=O.cell 1;have aI:=O.frozen 1;have d2:=J.cell 2;have aJ:=J.frozen 2;have ah:=Gz.put av (af.ext H) (λx=>(aw x).imp λ_ _ a=>a.ext H) (ax.less (zx _)) ag Z ad ak;have T:=O.ad 1 i;have d27:=T.cell 2;have aK:=T.frozen 2;clear J ag;have u:∀X:Bool,X=(S.done||decide (n=0))->∀W:Aj,W=(az.setCell ⟨p,1,none⟩ i).setCell ⟨p,2,none⟩ X->NI w W p b (KC S i l):=by
   intro X aB W aC;subst aC;refine⟨⟨?_,?_⟩,?_⟩;have:=T.ad 2 X;have e:(KC S i l).done=X:=by rw[aB,<-au.out];rfl
   rw[e];exact this;exact(ah.cell O Ax _).cell T Ax _;exact(((Ae.stay H).grown Z (λk e=>by cases e;exact .inl (.inr rfl))).setCell (.inl (.inl rfl)) _).setCell (.inl (.inl rfl)) _
  have u:=zk u;obtain⟨aa,ab⟩:∃aa,S.done=aa:=⟨_,rfl⟩;rw[ab]at d2 d27;have ac:=zk ab;clear ab ah;cases aa;by_cases aj:n=0;subst aj;go_wp2;first|go_end0|go_ret
  exact⟨rfl,u _ (by rw[ac.out];rfl) _ rfl⟩;go_wp2;first|go_end0|go_ret
  exact⟨rfl,u _ (by rw[ac.out];simp[aj]) _ rfl⟩;go_wp2;first|go_end0|go_ret
  exact⟨rfl,u _ (by rw[ac.out];rfl) _ rfl⟩
end
def Rm:Enters 320:=by intro args w;go_simp
def ZT(n lo:Int)(q:Addr)(w:World)(u:w.cell? q=some (.int .i64 lo))(h:lo<=n/\n<=10000000/\n≠0):Calls prog 320 #[.int .i64 n,.pointer (some q)] w λe w'=>e=.returned false/\w=w':=by
 have E:¬n<lo:=Ad;have H:¬10000000<n:=Ad;have J:(n==0)=false:=by simpa using h.2.2
 clear h;go_enter func320,ntmps320;go_wp2;go_ret;exact⟨rfl,rfl⟩
def Ut(A:AD)(n c:Nat)(l:An)(lo:Int)(w:Aj)(h:AB w A n l)(J:n<=1000)(E:∀x∈l,lo<=x/\x<=10000000/\x≠0):AC 264 #[.slice A n c,lo] w λe w'=>e=.returned true/\Ae w w':=by
 have u:=(Ae.refl w).alloc (Obj.cells #[lo] 3);go_enter func264,ntmps264;go_wp2_with fail
 refine(Hk _ _ _ l (λ_=>false) _ _ _ (h.ext u) Rm λx H=>ZT x lo _ _ (BD w lo 3) (E x H)).mono ?_;rintro e w'⟨rfl,rfl⟩;rw[show l.any (λ_=>false)=false by simp];go_wp2_with fail
 go_ret;exact⟨rfl,u⟩
def Aie(s:Cz)(A:AD)(n c:Nat)(A':AD)(n' c':Nat)(w:Aj)(h:AB w A n s.lits)(J:AB w A' n' s.hints)(u:KM s):AC 178 #[.agg #[s.kind,s.id,.slice A n c,.slice A' n' c']] w λe w'=>e=.returned true/\Ae w w':=by
 obtain⟨kind,id,zd,aa⟩:=s;have H:=(Ae.refl w).alloc (Obj.cells #[kind,id,.slice A n c,.slice A' n' c'] 105);have af:=Aq.new w 105 #[kind,id,.slice A n c,.slice A' n' c'];have ab:=h.ext H;have O:=J.ext H;have ac:=zk h.1;have ad:n'<=1000:=by rw[<-J.1];exact u.len
 have T:=u.dC;have aj:id<=10000000:=u.dL;have ak:0<=id:=u.e2;have ae:=u.k;clear h J u;dsimp only at ab O ac T ae⊢;rcases ae with⟨rfl,al,ag⟩|⟨rfl,rfl⟩;skip;go_enter func178,ntmps178;go_wp2_with fail
 refine(JM _ _ _ zd 100000 _ ab ag).mono ?_;rintro e ah⟨rfl,U⟩;have a3:ah.cell? ⟨w,3,none⟩=some (.slice A' n' c'):=(af.ext U).cell 3;skip;go_wp2_with fail
 refine(Ut _ _ _ aa (-10000000) _ (O.ext U) ad (λx V=>by have:=T x V;omega)).mono ?_;rintro e w2⟨rfl,E⟩;have Z:=H.trans (U.trans E);clear E;go_wp2_with fail
 go_ret;exact⟨rfl,Z⟩;obtain rfl:0=n:=ac;go_enter func178,ntmps178;go_wp2_with fail
 refine(Ut _ _ _ aa 1 _ O ad (λx V=>by have:=T x V;omega)).mono ?_;rintro e w2⟨rfl,E⟩;have Z:=H.trans E;clear E;go_wp2_with fail
 go_ret;exact⟨rfl,Z⟩
def AdG(s:Cz)(A:AD)(n c:Nat)(A':AD)(n' c':Nat)(w:Aj)(h:AB w A n s.lits)(E:AB w A' n' s.hints)(H:KM s):AC 177 #[.agg #[s.kind,s.id,.slice A n c,.slice A' n' c']] w λe w'=>e=.returned false/\Ae w w':=by
 have u:=(Ae.refl w).alloc (Obj.cells #[s.kind,s.id,.slice A n c,.slice A' n' c'] 105);go_enter func177,ntmps177;go_wp2_with fail
 refine(Aie s A n c A' n' c' _ (h.ext u) (E.ext u) H).mono ?_;rintro e O⟨rfl,J⟩;go_wp2_with fail
 go_ret;exact⟨rfl,(u.trans J)⟩
def NO(W:World)(a:Addr)(i:Nat)(z:Cz)(A:Option Addr)(n c:Nat)(A':Option Addr)(n' c':Nat):Prop:=W.cell? (a.add (i*4))=some (.int .i64 z.kind)/\W.cell? ⟨(a.add (i*4)).block,(a.add (i*4)).off+1,none⟩=some (.int .i64 z.id)/\W.cell? ⟨(a.add (i*4)).block,(a.add (i*4)).off+2,none⟩=some (.slice A n c)/\W.cell? ⟨(a.add (i*4)).block,(a.add (i*4)).off+3,none⟩=some (.slice A' n' c')
def NO.ext{W W':Aj}{a:Addr}{i:Nat}{z:Cz}{A:AD}{n c:Nat}{A':AD}{n' c':Nat}(h:NO W a i z A n c A' n' c')(u:Ae W W'):NO W' a i z A n c A' n' c':=⟨u.cell h.1,u.cell h.2.1,u.cell h.2.2.1,u.cell h.2.2.2⟩
def Wn(W:Aj)(a:Addr)(i:Nat)(z:Cz):Prop:=∃A n c A' n' c',NO W a i z A n c A' n' c'/\AB W A n z.lits/\AB W A' n' z.hints
def DP(W:Aj)(A:AD)(n:Nat)(l:List Cz):Prop:=l.length=n/\n<=Bh/\(0<n->∃u,A=some u/\∀(i:Nat)(z:Cz),l[i]? =some z->Wn W u i z)
def DP.ext{W W':Aj}{A:AD}{n:Nat}{l:List Cz}(h:DP W A n l)(u:Ae W W'):DP W' A n l:=⟨h.1,h.2.1,λE=>let⟨H,e,J⟩:=h.2.2 E;⟨H,e,λi z O=>let⟨A,n,c,A',n',c',T,U,V⟩:=J i z O;⟨A,n,c,A',n',c',T.ext u,U.ext u,V.ext u⟩⟩⟩
def DP.at_{W:Aj}{A:AD}{n:Nat}{l:List Cz}(h:DP W A n l){k:Nat}(H:k<n):∃u z,A=some u/\Hid (l[k]? =some z)/\Wn W u k z:=by
 obtain⟨u,e,J⟩:=h.2.2 Ad;have E:k<l.length:=by rw[h.1];exact H
 exact⟨u,l[k],e,zr E,J k _ (zr E)⟩
def Yd(A:AD)(n c:Nat)(l:List Cz)(w:Aj)(H:DP w A n l)(U:∀z∈l,KM z):AC 176 #[.slice A n c,.func (.func 177) #[] #[]] w λe w'=>e=.returned (.int .i64 (-1))/\Ae w w':=by
 have am:=H.2.1;skip;go_enter func176,ntmps176;go_wp2;go_loopw[8](λi wr=>∃j:Nat,j<=n/\i=j/\Ae w wr)(λi _=>n-(intOf i).toNat);case atStart=>exact⟨0,zx _,rfl,Ae.refl _⟩
 case round=>
  obtain⟨j,an,rfl,u⟩:=hrel;by_cases V:j<n;obtain⟨ao,z,rfl,E,Z,aa,ab,ac,ad,ae,⟨af,ag,ah,aj⟩,J,O⟩:=(H.ext u).at_ V;have ak:=AdG z Z aa ab ac ad ae wr J O (U z (zm E));have aq:(j:Int)<(n:Int):=Ad;have au:(0:Int)<=(j:Int):=Ad;clear E J O;go_wp2_with fail
  refine ak.mono ?_;rintro e w2⟨rfl,T⟩;have al:=u.trans T;clear T af ag ah aj;go_wp2;go_roundw;case rel=>exact⟨j+1,Ad,by go_num,al⟩
  case measure=>simp[intOf];omega
  obtain rfl:n=j:=Ad;skip;go_wp2;go_ret;exact⟨rfl,u⟩
def RJ(A:AD)(n c:Nat)(l:List Cz)(w:Aj)(h:DP w A n l)(u:∀z∈l,KM z)(H:n<=10000):AC 105 #[.slice A n c] w λe w'=>e=.returned (.tuple #[n,()])/\Ae w w':=by
 go_enter func105,ntmps105;go_wp2_with fail
 refine(Yd A n c l w h u).mono ?_;rintro e w2⟨rfl,E⟩;go_wp2;go_ret2;exact⟨rfl,E⟩
def Zo{w:Aj}{g:Nat}{kind id:Int}{A:AD}{n c:Nat}{A':AD}{n' c':Nat}{zd u:An}(hb:Aq w g 105 #[kind,id,.slice A n c,.slice A' n' c'])(h:AB w A n zd)(H:AB w A' n' u):DP w g 1 [⟨kind,id,zd,u⟩]:=⟨rfl,Ad,λ_=>⟨_,rfl,λi z E=>by cases i<;>simp at E;subst E;exact⟨A,n,c,A',n',c',⟨by simpa[Addr.add]using hb.cell 0,by simpa[Addr.add]using hb.cell 1,by simpa[Addr.add]using hb.cell 2,by simpa[Addr.add]using hb.cell 3⟩,h,H⟩⟩⟩
section
open Go.Shelf Go.Sort
attribute [local go_sem] acz
def Ac9(A:AD)(n c:Nat)(w:Aj):AC 181 #[.slice A n c] w λe w'=>e=.returned (.func (.func 266) #[] #[.pointer w])/\w'=w.alloc (Obj.cells #[.slice A n c] 86):=by go_enter func181,ntmps181;go_wp2;go_ret;exact⟨rfl,rfl⟩
def Zr(n:Nat)(an:1<=n)(l:Nat)(V:Nat)(A:AD)(u c:Nat)(xs:An)(H Z:An->Aj->Prop)(E W:Aj)(J:AB E A u xs)(ao:W.cell? V=some (.slice A u c))(ac:Below E E W)
 (ad:∀pre x O,H pre O->pre.length<u->YieldAt Fence.wide (n-1) prog l #[.int .i64 x] O λe W'=>
  (e=.returned (.bool true)/\H (pre++[x]) W'/\Below E.heap.size O W')\/(e=.returned (.bool false)/\Z (pre++[x]) W'))
 (ae:H [] W):
 CallsIn Fence.wide n prog 266 #[.func (.yield l) #[] #[],.pointer V] W λe W'=>(∃v,e=.returned v)/\
  ((∃aa,aa=xs/\H aa W')\/(∃pre:An,(∃k,k<u/\pre=xs.take (k+1))/\Z pre W')):=by
 have aq:=J.len
 have af:=zk J.1
 refine callsIn_of_wp func266 rfl trivial ?_ rfl
 simp only[ntmps266,List.size_toArray,List.length_cons,List.length_nil,Nat.reduceAdd,Nat.reduceSub,acr,Array.replicate_zero,ada,acw,List.nil_append,List.cons_append]
 gi_wp2
 gi_loopw[4,7](λ_ i wr=>∃k:Nat,k<=u/\i=k/\H (xs.take k) wr/\Below E E wr)(λ_ i _=>u-(intOf i).toNat)
 case atStart=>exact⟨0,zx _,rfl,ae,ac⟩
 case round=>
  obtain⟨k,au,rfl,T,hb⟩:=hrel
  by_cases U:k<u
  obtain⟨av,x,rfl,ag,aw,ax,ay⟩:=(J.ext (show Ae E wr from hb)).at_ U
  have ab:=zk (AM ag)
  have ah:(xs.take k).length<u:=by rw[ya];omega
  obtain⟨fn,az,assign,body,aA,aj⟩:=ad (xs.take k) x wr T ah
  gi_wp2
  refine aj.mono ?_
  rintro e aB(⟨rfl,ak,al⟩|⟨rfl,am⟩)
  gi_wp2
  go_roundw
  case rel=>exact⟨k+1,Ad,by go_num,by rw[ab.out];exact ak,hb.trans al⟩
  case measure=>simp[intOf];omega
  gi_wp2
  refine yw (results_none rfl _ _ _) rfl ?_
  exact⟨⟨_,rfl⟩,.inr ⟨_,⟨k,U,ab.symm⟩,am⟩⟩
  gi_wp2
  go_end0
  refine⟨⟨_,rfl⟩,.inl ⟨xs,rfl,?_⟩⟩
  rw[CI af U]at T
  exact T
attribute [local go_sem] acz
def UH(n:Nat)(T:1<=n)(H:Nat)(A:AD)(u c:Nat)(xs:An)(E w:Aj)(U:AB E A u xs)(V:Aq w H 86 #[.slice A u c])(J:Below E E w):SeqStopsK Fence.wide n prog 266 #[.pointer H] (λx:Int=>#[Value.int .i64 x]) (Below E) (λZ=>Z=xs) (λpre=>∃k,k<u/\pre=xs.take (k+1)) u w:=λl aa ab W O _ _ ac ad=>by exact Zr n T l H A u c xs aa ab E W U ((V.ext O).cell 0) (J.trans ((show Below w w W from O).mono J.size)) ac ad
def TT(E:Nat)(A:AD)(J c:Nat)(xs:An)(w:Aj)(av:J<=1000000)(ae:Aq w E 86 #[.slice A J c])(Z:AB w A J xs):AC 321 #[AI,.func (.func 266) #[] #[.pointer E]] w λe w'=>∃v,e=.returned v/\Ay w' w v xs/\Ae w w':=by
 obtain⟨af,hi,ag,ah,aj⟩:=info_parts AgE;refine(aa7 (n:=3)).1 ?_;refine callsIn_of_wp_marks func321 rfl trivial ?_ rfl;simp only[ntmps321,List.size_toArray,List.length_cons,List.length_nil,Nat.reduceAdd,Nat.reduceSub,acr,Array.replicate_zero,ada,acw,List.nil_append,List.cons_append];gi_wp2;have aa:=Boxed.new w 86 AI;have O:=(Ae.refl w).alloc (Obj.cells #[AI] 86);have ak:(w.alloc (Obj.cells #[AI] 86)).heap.size=w+1:=AG;generalize w.alloc (Obj.cells #[AI] 86)=al at aa O ak⊢;refine wpIn_rangeFunc_ownG (F:=Fence.wide) rfl Ax (gf:=266) (lb:=#[.pointer E]) rfl trivial (enters_of func266 AJ rfl) (UH 2 Ax E A J c xs w al Z (ae.ext O) O) belowK_t (belowK_b Ad) (Below.refl _ _) (λ_=>rfl) (λ(pre:An)W=>(∃u,Boxed W w 86 u/\W.ownsRow w 3 1 u pre.length (pre.map (Value.int .i64))/\(u=AI↔pre=[]))/\Below w w W) (λ_ _ _=>False) (OwnFrom.and (Own.from (holdsRow_own w w 86 3 1 (λ(pre:An)=>pre.length) (λpre=>pre.map (Value.int .i64)) (λpre u=>u=AI↔pre=[])) _) (ownFrom_below (zs _) Ad)) (λ_ _ _ _ _ Z _ _=>Z) ⟨⟨_,aa,ab0 _ _ _ _,AG⟩,O⟩ (λx=>{tmps:=#[AI,.func (.func 266) #[] #[.pointer E],.pointer w,undef,AI,x,.func (.func 266) #[] #[.pointer E],x,undef,undef,undef,undef,undef],defers:=[]}) ?assign ?body ?done ?stop;case assign=> intro l x W K T;gi_wp2;exact T
 case body=>
  rintro l pre x W⟨⟨u,U,V,ax⟩,H⟩ay;have am:=U.cell;gi_wp2_with(gi_at_builtin;refine wpListIn_append_own _ rfl _ _ 86 rfl w 3 af () 1 8 underlying86 hi ag ah aj rfl Ax _ _ _ rfl (V.alloc _) W 1 1 [x] rfl rfl (cell_one_new _ _ _) (by simp[Value.oneCell']) (by unfold maxLen;omega) Ad (by have:=H.size;simp;omega) ?_;intro az aA ab an _;obtain⟨aB,aC,rfl⟩:=ownsRow_succ ab;obtain⟨ac,ao,aq,au,ad⟩:=U.appended Ax V H.size (zs _) ab an;have aD:=ac.cell;have aE:=ac.frozen)
  exact⟨au.from _,ad,⟨_,ao,by simpa using aq,AG⟩,H.trans ad⟩
 case done=> rintro D aF W aG rfl⟨⟨u,U,V,_⟩,H⟩T;have am:=U.cell;gi_wp2;refine⟨AG,.inl ⟨_,_,rfl,run_takeDeferred T,?_⟩⟩;exact⟨_,results_tmp rfl _ _ _,u,rfl,(ownsRow_putObj V (.deferred none) T rfl),(show Ae w W from H).grown (grownBy_putObj' W D _) (λk e=>by cases e;omega)⟩
 case stop=> rintro D c pre W _ _ h _;exact h.elim
def XE(E:Nat)(A:AD)(u c:Nat)(xs:An)(w:Aj)(H:u<=1000000)(J:Aq w E 86 #[.slice A u c])(O:AB w A u xs):AC 265 #[.func (.func 266) #[] #[.pointer E]] w λe w'=>∃v,e=.returned v/\Ay w' w v xs/\Ae w w':=by
 go_enter func265,ntmps265;go_wp2_with fail
 refine(TT E A u c xs _ H J O).mono ?_;rintro e V⟨v,rfl,T,U⟩;go_wp2_with fail
 go_ret;exact⟨_,rfl,T,U⟩
def Cs(xs:An):An:=xs.mergeSort λx y=>decide (x<=y)
def Rx(w:Aj)(za:Nat)(v:Aw)(xs:An)(h:Ay w za v xs)(ad:xs.length<=1000000):AC 239 #[v] w λe w'=>e=.returned (.tuple #[])/\Ay w' za v (Cs xs)/\w.grownBy w' v.ownBlock:=by
 rcases h.2 with⟨rfl,J⟩|⟨O,zh,ae,rfl,T,u,U,V,Z,aa⟩;have ab:=z9 J;subst ab;refine(slices_Sort_int_none none 0 w).mono ?_;rintro e w'⟨rfl,rfl⟩;exact⟨rfl,by simpa[Cs]using h,aay _ _⟩;refine(slices_Sort_int O 0 zh xs w (holds_of_block_i u (by simpa using aa)) (z6.1 u).1 Ad).mono ?_;rintro e w'⟨rfl,ac,os,rfl⟩;refine⟨rfl,?_,grownBy_sorted_i _⟩;have E:(Cs xs).length=xs.length:=by unfold Cs;rw[aco]
 have H:=ownsRow_sorted_i (n:=ac) (os:=os) (ss:=xs) (ts:=Cs xs) E T u U V Z;rw[<-E]at H;rw[<-E];exact H
def Abq(E:Nat)(A:AD)(u c:Nat)(xs:An)(w:Aj)(H:u<=1000000)(T:Aq w E 86 #[.slice A u c])(J:AB w A u xs):AC 180 #[.func (.func 266) #[] #[.pointer E]] w λe w'=>∃v,e=.returned v/\Ay w' w v (Cs xs)/\Ae w w':=by
 have U:xs.length<=1000000:=by rw[J.1];exact H
 go_enter func180,ntmps180;go_wp2_with fail
 refine(XE E A u c xs _ H T J).mono ?_;rintro e ac⟨v,rfl,O,V⟩;go_wp2_with fail
 refine(Rx _ _ v xs O U).mono ?_;rintro e w2⟨rfl,Z,aa⟩;go_wp2_with fail
 go_ret;exact⟨_,rfl,Z,V.grown aa (λk ab=>(O.J k ab).1)⟩
end
section
open Go.Maps Go.Shelf Go.Sort
def PM(w:Aj)(za:Nat)(A:AD)(n c:Nat)(xs:An)(h:Ay w za (.slice A n c) xs)(ah:xs.length<=1000000):AC 179 #[.slice A n c] w λe w'=>∃m,e=.returned (.slice A m c)/\Ay w' za (.slice A m c) (Lib.compact xs)/\w.grownBy w' (Value.slice A n c).ownBlock:=by
 rcases h.2 with⟨e,Z⟩|⟨E,zh,aj,e,aa,T,U,ab,ac,ad⟩;have ae:=z9 Z;subst ae;injection e with H J O;subst H J O;refine(slices_Compact_int_empty none 0 w).mono ?_;rintro e w'⟨rfl,rfl⟩;exact⟨0,rfl,h,aay _ _⟩;injection e with H J O;subst H J O;refine(slices_Compact_int E 0 c xs w (holds_of_block_i T (by simpa using ad)) Ad U).mono ?_;rintro e w'⟨rfl,q,rfl⟩;have af:=Lib.compact_length_le xs;have u:(Lib.compact xs++List.replicate (xs.length-(Lib.compact xs).length) 0).length=xs.length:=Ca;have V:=ownsRow_sorted_i (n:=q) (os:=#[]) (ss:=xs) (ts:=Lib.compact xs++List.replicate (xs.length-(Lib.compact xs).length) 0) u aa T U ab ac;rw[grow_empty,<-u]at V;have ag:Ay (putRow encZ (Sort.ahead w q) E 0 (Lib.compact xs++List.replicate (xs.length-(Lib.compact xs).length) 0).toArray) za (.slice E xs.length c) (Lib.compact xs++List.replicate (xs.length-(Lib.compact xs).length) 0):=by have:=V;rw[u]at this;unfold Ay;rw[u];exact this
 have hcut:=ag.cut (k:=(Lib.compact xs).length) (by rw[u];exact af);rw[ace rfl]at hcut;refine⟨_,rfl,hcut,?_⟩;have:=grownBy_sorted_i (w:=w) (g:=E) (n:=q) (os:=#[]) (Lib.compact xs++List.replicate (xs.length-(Lib.compact xs).length) 0).toArray;rw[grow_empty]at this;exact this
def Pj{xs:An}(h:xs.Nodup):Lib.compact xs=xs:=by refine Lib.compact_all xs (λj u=>?_);unfold Lib.keeps;rw[z8];by_cases E:j=0;exact .inl E;refine .inr λe=>?_;rw[getElem!_pos xs.toArray j (by simpa using u),getElem!_pos xs.toArray (j-1) Ca]at e;simp only[List.getElem_toArray]at e;have:=(xz h).1 e;omega
def Tu(F:Nat)(u:Ck)(E:Int->Int->Int):Prop:=∀(x y:Int)(W:Aj),AC F (#[.int .i64 x,.int .i64 y]++u) W λe w'=>e=.returned (E x y)/\w'=W
def X5{d d':Array Int}(h:PermIn 0 d.size d d'):d'.toList.Perm d.toList:=by
 obtain⟨u,_,E⟩:=h;have H:d'.extract 0 d.size=d':=by rw[<-u];exact ac6
 have J:d.extract 0 d.size=d:=ac6;rwa[H,J]at E
def YZ(w:Aj)(za:Nat)(A:AD)(n c:Nat)(xs:An)(F:Nat)(u:Ck)(E:Int->Int->Int)(h:Ay w za (.slice A n c) xs)(aq:xs.length<=1000000)(hF:Enters F)(ab:Tu F u E)(ac:SWO (ltOf E)):AC 345 #[.slice A n c,.func (.func F) #[] u] w λe w'=>e=.returned (.tuple #[])/\∃U,Ay w' za (.slice A n c) U/\U.Perm xs/\w.grownBy w' (Value.slice A n c).ownBlock:=by
 rcases h.2 with⟨e,ad⟩|⟨ae,zh,au,e,af,H,ag,ah,aj,ak⟩;have al:=z9 ad;subst al;injection e with J O T;subst J O T;refine adl (show AC 345 _ _ _ from(AnyF.slices_SortFunc_none (P:=prog) (ρ:=sortFA_ren) {sortFA with} none 0 (.func (.func F) #[] u) w)) ?_;rintro e w'⟨rfl,rfl⟩;exact⟨rfl,[],h,abb _,aay _ _⟩;injection e with J O T;subst J O T;have V:=Any.slices_SortFunc sortFA (Value.int .i64) (λ_=>rfl) E ac F u ae 0 c xs.toArray w hF (λm os dk _ x y=>(ab x y _).mono λe w'⟨am,an⟩=>⟨am,0,#[],by rw[an,grow_empty];rfl⟩) (holds_of_block_i H (by simpa using ak)) (z6.1 H).1 Ca;rw[show xs.toArray.size=xs.length by simp]at V;refine V.mono ?_;rintro e w'⟨rfl,d',q,os,ao,_,rfl⟩;have Z:d'.toList.Perm xs:=by have:=X5 (d:=xs.toArray) (d':=d') (by simpa using ao);simpa using this
 have aa:=Z.length_eq;refine⟨rfl,d'.toList,?_,Z,grownBy_sorted_i _⟩;unfold Ay;rw[aa];exact(ownsRow_sorted_i (n:=q) (os:=os) (ss:=xs) (ts:=d'.toList) aa af H ag ah aj)
def Tg:Enters 344:=by intro args w;go_simp
def Tj:Enters 346:=by intro args w;go_simp
def Af7(l:Int)(w:Aj):AC 344 #[l] w λe w'=>e=.returned (.bool (Ak l==0))/\w=w':=by
 go_enter func344,ntmps344;go_wp2_with(go_at_call 141;refine(BF _ _).mono ?_;rintro e w'⟨rfl,rfl⟩)
 go_ret;exact⟨rfl,rfl⟩
def ZS(x y:Int):Int:=Lib.compareInt (GO x) (GO y)
def Agu:Tu 346 #[] ZS:=by
 intro x y w;go_enter func346,ntmps346;go_wp2_with(first
  |(go_at_call 347;refine(Af9 _ _).mono ?_;rintro e w'⟨rfl,rfl⟩)
  |(go_at_call 286;refine(cmp_Compare_int _ _ _).mono ?_;rintro e w'⟨rfl,rfl⟩))
 go_ret;exact⟨rfl,rfl⟩
def Ahd(x y:Int):ltOf ZS x y=decide (GO x<GO y):=by unfold ltOf ZS Lib.compareInt;by_cases u:GO x<GO y;simp[u];by_cases E:GO y<GO x<;>simp[u,E]
def Aja:SWO (ltOf ZS)where
 irrefl x:=by rw[Ahd];simp
 trans x y z u E:=by rw[Ahd]at *;simp at *;omega
 ntrans x y z u E:=by rw[Ahd]at *;simp at *;omega
def ML.ext{E:Aj}{g:Nat}(H:E<=g):ML g λW=>Ae E W:=λ_ j u h=>h.setCell (p:=⟨g,j,none⟩) H u
def Acm{w:Aj}{za:Nat}{A:AD}{n c:Nat}{xs:An}(h:Ay w za (.slice A n c) xs):∀g,A=some ⟨g,0,none⟩->za<=g:=λg e=>by subst e;exact(h.J g rfl).1
def Agl(xs:An)(w:Aj)(e:Bz)(w':Aj):Prop:=∃v u,e=.returned v/\Ay w' w v u/\u.Perm xs/\Ae w w'
def Ahm(A:AD)(n c:Nat)(xs:An)(w:Aj)(h:AB w A n xs)(ae:∀x∈xs,Ak x≠0)(af:xs.Nodup)(J:xs.length<=1000000):AC 302 #[.slice A n c] w (Agl xs w):=by
 have aC:=h.1;have ag:=h.2.2.1;skip;go_enter func302,ntmps302;go_wp2_with fail
 refine(Fm A n c xs w h Ad).mono ?_;rintro e ah⟨v1,rfl,O,aj⟩;obtain⟨u,ak,E,rfl⟩:=O.form;have T:=O;go_wp2_with fail
 refine(Hj w u ak E xs (λx=>Ak x==0) 344 #[] ah (λW=>Ae w W) aj T (λg e=>ML.ext (Acm T g e)) ag Ad Tg (λx _ W al=>(Af7 x W).mono λe w'⟨am,U⟩=>⟨am,by subst U;exact al,by subst U;exact Ae.refl _⟩)).mono ?_;rintro e w2⟨V,rfl,Z,an⟩;rw[filter_all (λx ao=>by simpa using ae x ao)]at Z;have aa:=Z;have aq:=an;go_wp2_with fail
 refine(YZ w2 w u V E xs 346 #[] ZS aa J Tj Agu Aja).mono ?_;rintro e au⟨rfl,ab,ac,H,av⟩;have aw:=aq.grown av (λk e=>(aa.J k e).1);have ax:=Pj (H.nodup_iff.2 af);have ay:=zk ax;go_wp2_with fail
 refine(PM au w u V E ab ac (by rw[H.length_eq];exact J)).mono ?_;rintro e aD⟨m,rfl,ad,az⟩;rw[ay.out]at ad;have aA:=aw.grown az (λk e=>(ac.J k e).1);have aB:=ad;go_wp2;go_ret;exact⟨_,ab,rfl,aB,H,aA⟩
end
section
open Go.Maps Go.Shelf Go.Sort
def Ay.da{za g n zh:Nat}:∀(u:An)(o:Nat)(xs:An)(w:Aj),Ay w za (.slice g n zh) xs->o+u.length<=xs.length->Ay (w.setCells g o (u.map (Value.int .i64))) za (.slice g n zh) (xs.take o++u++xs.drop (o+u.length))
 |[],o,xs,w,h,_=>by simpa[World.setCells]using h
 |y::u,o,xs,w,h,H=>by
  have O:o+(u.length+1)<=xs.length:=by simpa using H
  have E:=Ay.da u (o+1) _ _ (h.cN (j:=o) (y:=y)) (by rw[xj];omega);have e:(xs.set o y).take (o+1)++u++(xs.set o y).drop (o+1+u.length)=xs.take o++(y::u)++xs.drop (o+(y::u).length):=by have J:(xs.set o y)[o]? =some y:=x4 Ad;rw[AM J,acv (zs _),List.drop_set_of_lt Ad];simp[ad2,ac1 1]
  rw[e]at E;exact E
def AcU(w:Aj)(za:Nat)(A:AD)(n c i:Nat)(xs:An)(h:Ay w za (.slice A n c) xs)(hi:i<xs.length):
 AC 304 #[.slice A n c,i,((i+1:Nat):Int)] w λe w'=>∃g,A=some ⟨g,0,none⟩/\za<=g/\e=.returned (.slice A (n-1) c)/\
  Ay w' za (.slice A n c) (xs.take i++xs.drop (i+1)++[0])/\w.grownBy w' (some g)/\n<=c/\c<=Bh:=by
 rcases h.2 with⟨e,af⟩|⟨u,zh,ag,e,J,O,E,T,ab,ac⟩
 omega
 injection e with H ad ae
 subst H ad ae
 have U:c<=Bh:=by unfold maxLen at T;omega
 refine(slices_Delete_int u 0 c i (i+1) xs w (holds_of_block_i O (by simpa using ac)) E U Ad Ad).mono ?_
 rintro e w'⟨rfl,q,rfl⟩
 have H:i+1-i=1:=Ad
 rw[H]
 have V:(xs.take i++xs.drop (i+1)++[0]).length=xs.length:=Ca
 have Z:=ownsRow_sorted_i (n:=q) (os:=#[]) (ss:=xs) (ts:=xs.take i++xs.drop (i+1)++[0]) V J O E T ab
 rw[grow_empty]at Z
 have aa:=grownBy_sorted_i (w:=w) (g:=u) (n:=q) (os:=#[]) (xs.take i++xs.drop (i+1)++[0]).toArray
 rw[grow_empty]at aa
 refine⟨u,rfl,J,rfl,?_,aa,E,U⟩
 unfold Ay
 rw[V]
 exact Z
def E6{g:Nat}:∀(vs:List Aw)(o:Nat)(w:Aj),w.grownBy (w.setCells g o vs) (some g)
 |[],_,w=>aay _ _
 |v::vs,o,w=>by have u:w.grownBy (w.setCell ⟨g,o,none⟩ v) (some g):=⟨rfl,rfl,rfl,by rw[xf];exact zs _,λj _ H=>yt w _ _ j (λe=>H (by rw[e]))⟩;have E:(w.setCell ⟨g,o,none⟩ v).grownBy ((w.setCell ⟨g,o,none⟩ v).setCells g (o+1) vs) (some g):=E6 (g:=g) vs (o+1) (w.setCell ⟨g,o,none⟩ v);exact⟨E.os.trans u.os,E.tape.trans u.tape,E.output.trans u.output,z7 u.size E.size,λj H J=>(E.block j (x6 H u.size) J).trans (u.block j H J)⟩
def Tk{w:Aj}{g:Option Nat}:w.grownBy w.drew g:=⟨rfl,rfl,rfl,zs _,λ_ _ _=>rfl⟩
def MX{a b c:Aj}{g:Option Nat}(h:a.grownBy b g)(k:b.grownBy c g):a.grownBy c g:=⟨k.os.trans h.os,k.tape.trans h.tape,k.output.trans h.output,z7 h.size k.size,λj u E=>(k.block j (x6 u h.size) E).trans (h.block j u E)⟩
def Zq(w:Aj)(za g n c H:Nat)(x:Int)(E:An)(J:Ay w za (.slice g n c) (E++[0]))(T:n=E.length+1)(ak:n<=c)(U:c<=Bh)(O:Aq w H 3 #[x])(ad:H≠g):AC 303 #[.slice g (n-1) c,(),.slice H 1 1] w λe w'=>e=.returned (.slice g n c)/\Ay w' za (.slice g n c) (x::E)/\w.grownBy w' (some g):=by
 have V:∀(j:Nat)(v:Aw),[Value.int .i64 x][j]? =some v->w.cell? ⟨H,0+j,none⟩=some v:=λj v u=>by
  rw[xv,O.cell j];cases j with
  |zero=>simpa using u
  |succ j=>simp at u
 have Z:∀j,j<n->(w.cell? ⟨g,0+j,none⟩).isSome=true:=λj u=>by rw[xv];obtain⟨y,ae⟩:∃y,(E++[0])[j]? =some y:=⟨_,zr Ca⟩;rw[J.bm ae];rfl
 have aa:∀j,w.frozen? ⟨g,0+j,none⟩=false:=λj=>J.cx _;cases E with
 |nil=> subst T;have:=Any2.slices_Insert_int_end_room (P:=prog) insA g 0 0 c H 0 1 1 [x] w Ad Ad U rfl (λj u=>by simpa using Z j u) (λj u=>by simpa using aa j) V (by simp[Value.oneCell']);refine adl (show AC 303 _ _ _ from this) ?_;rintro e w'⟨rfl,rfl⟩;refine⟨rfl,?_,E6 _ _ _⟩;have:=Ay.da [x] 0 _ _ J AG;simpa using this
 |cons y E=>
  have al:n-1=E.length+1:=by rw[T];simp
  have af:w.shape? H=some (3,1):=by unfold World.shape?;rw[show w.heap[H]? =_ from O];rfl
  obtain⟨Vw,ag,ah,am,_⟩:=World.shape?_of_cell? (J.bm (j:=0) (x:=y) AG);have:=Any2.slices_Insert_int_shift (P:=prog) insA g 0 (n-1) c 0 H 0 1 1 ((y::E).map (Value.int .i64)) [x] w Ad Ad Ad U ad Ca rfl (λj v u=>by rw[xv];rw[yd,aae]at u;obtain⟨z,ab,rfl⟩:=u;exact J.bm (by rw[yh (zl.1 ab).1];exact ab)) (λj u=>Z j Ad) (λj _=>aa j) V (by simp[Value.oneCell']) (by simp[Value.oneCell']) _ Vw 1 ag af ah Ad (O.frozen 0) (O.frozen 1);refine adl (show AC 303 _ _ _ from this) ?_;rintro e w'⟨rfl,rfl⟩;have aj:n-1+1=n:=Ad;rw[aj];refine⟨rfl,?_,MX (MX Tk (E6 _ _ _)) (E6 _ _ _)⟩;have ac:=Ay.da (y::E) 1 _ _ (J.ext ((Ae.refl w).drew)) Ca;rw[ach Ca]at ac;simpa using(Ay.da [x] 0 _ _ ac AG)
end
