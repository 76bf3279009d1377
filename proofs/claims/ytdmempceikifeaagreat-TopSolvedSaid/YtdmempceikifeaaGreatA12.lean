import Derived.Test.YtdmempceikifeaaGreatA04
import Derived.Lib.SliceRun
set_option maxRecDepth 100000
set_option maxHeartbeats 16000000
set_option linter.all false
namespace Go.Proofs.YtdmempceikifeaaGreat
open Go.RowKit Tryz
def Rr(F:Nat)(u:Ck)(xs:An)(p:Int->Bool)(I:Aj->Prop):Prop:=∀x,x∈xs->∀W,I W->AC F (#[.int .i64 x]++u) W λe w'=>e=.returned (.bool (p x))/\I w'/\Ae W w'
def Qd(A n c xs p F V w I)(E:I w)(H:∀W,I W->AB W A n xs)(hF:Enters F)(ac:Rr F V xs p I):AC 289 #[.slice A n c,.func (.func F) #[] V] w λe w'=>e=.returned (CM p xs)/\I w':=by
 have ad:=(H w E).len;skip;go_enter func289,ntmps289;go_wp2;go_loopw[8](λi wr=>∃k,k<=n/\i=k/\(xs.take k).findIdx? p=none/\I wr)(λi _=>n-(intOf i).toNat);case atStart=>exact⟨0,zx _,rfl,rfl,E⟩
 case round=>
  obtain⟨k,ae,rfl,Z,J⟩:=hrel;have O:=zk Z;clear Z;by_cases aa:k<n;obtain⟨af,y,rfl,T,ag,ah,aj⟩:=(H wr J).at_ aa;go_wp2_with fail
  rw[hF,x7];refine(ac y (zm T) _ J).mono ?_;rintro e w'⟨rfl,ab,-⟩;skip;cases u:p y with
  |true=> have U:=zk u;clear u;go_wp2;go_ret;exact⟨Bn (by rw[CM,Gq O T U]),ab⟩
  |false=>
   have U:=zk u;clear u;go_wp2;go_roundw;case rel=>exact⟨k+1,Ad,by go_num,DU O T U,ab⟩
   case measure=>simp[intOf];omega
  go_wp2;go_ret;refine⟨Bn ?_,J⟩;have:=O.out;rw[CI (H w E).1 aa]at this;rw[CM,this]
def I1(A n c xs p F u w I)(E:I w)(H:∀W,I W->AB W A n xs)(hF:Enters F)(J:Rr F u xs p I):AC 212 #[.slice A n c,.func (.func F) #[] u] w λe w'=>e=.returned (.bool (xs.any p))/\I w':=by
 have hid:decide (0<=CM p xs)=xs.any p:=by
  unfold CM;cases e:xs.findIdx? p with
  |none=>
   rw[yz]at e;have:xs.any p=false:=by rw[xm];intro x O;rw[e x O];simp
   rw[this];rfl
  |some k=> obtain⟨T,U,_⟩:=yq.1 e;have:xs.any p=true:=y7.2 ⟨xs[k],aak T,U⟩;rw[this];exact zt (adz k)
 have V:=zk hid;clear hid;go_enter func212,ntmps212;go_wp2_with fail
 refine(Qd A n c xs p F u w I E H hF J).mono ?_;rintro e w'⟨rfl,Z⟩;go_wp2;go_ret;exact⟨Bo V,Z⟩
def SA(p xs):(CM p xs=-1/\∀x∈xs,p x=false)\/∃(k:Nat)(x:Int),CM p xs=k/\xs[k]? =some x/\p x=true/\∀y∈xs.take k,p y=false:=by
 unfold CM;cases e:xs.findIdx? p with
 |none=> rw[yz]at e;exact .inl ⟨rfl,λx E=>by rw[e x E]⟩
 |some k=> obtain⟨H,J,O⟩:=yq.1 e;refine .inr ⟨k,xs[k],rfl,zr H,J,λy T=>?_⟩;obtain⟨j,u⟩:=z0 T;rw[xb]at u;split at u;rename_i U;have:=O j U;rw[(zl.1 u).2]at this;simpa using this;cases u
def filter_all{p:Int->Bool}{xs:An}(h:∀x∈xs,p x=false):xs.filter (λx=>!p x)=xs:=by rw[x9];intro x u;rw[h x u];rfl
def He{p:Int->Bool}{xs:An}{k x}(h:xs[k]? =some x):(xs.take (k+1)).filter (λx=>!p x)=(xs.take k).filter (λx=>!p x)++if p x then[]else[x]:=by rw[AM h,y5];congr 1;cases h:p x<;>simp[h]
def Ay.dE{za g n zh}:∀m o xs w,Ay w za (.slice (some ⟨g,0,none⟩) n zh) xs->∃u,Ay (w.setCells g o (List.replicate m (.int .i64 0))) za (.slice (some ⟨g,0,none⟩) n zh) u/\u.take o=xs.take o/\u.length=xs.length
 |0,o,xs,w,h=>⟨xs,h,rfl,rfl⟩
 |m+1,o,xs,w,h=>by
  obtain⟨u,E,H,J⟩:=Ay.dE m (o+1) _ _ (h.cN (j:=o) (y:=0));refine⟨u,E,?_,by rw[J,xj]⟩;have:u.take o=(u.take (o+1)).take o:=by rw[abq];congr 1;omega
  rw[this,H,abq,show min o (o+1)=o by omega,acv (zs _)]
def ML(g:Nat)(I:Aj->Prop):Prop:=∀W j u,I W->I (W.setCell ⟨g,j,none⟩ u)
def ML.cells{g I}(h:ML g I):∀vs o W,I W->I (W.setCells g o vs)
 |[],_,_,u=>u
 |v::vs,o,W,u=>ML.cells h vs (o+1) _ (h W o v u)
def Ahk(za:Nat)(A:AD)(zh:Nat)(u:An)(I:Aj->Prop)(e:Bz)(w':Aj):Prop:=∃n',e=.returned (.slice A n' zh)/\Ay w' za (.slice A n' zh) u/\I w'
def Hj(za:Nat)(A:AD)(n zh:Nat)(xs:An)(p:Int->Bool)(F:Nat)(ae:Ck)(w:Aj)(I:Aj->Prop)(aA:I w)(Z:Ay w za (.slice A n zh) xs) (aB:∀g,A=some ⟨g,0,none⟩->ML g I)(aC:∀x∈xs,-9223372036854775808<=x/\x<=Bh)(bJ:xs.length<=1000000000000)(hF:Enters F) (aD:∀x,x∈xs->∀W,I W->Calls prog F (#[.int .i64 x]++ae) W λe w'=>e=.returned (.bool (p x))/\I w'/\Ae W w'):Calls prog 234 #[.slice A n zh,.func (.func F) #[] ae] w (Ahk za A zh (xs.filter λx=>!p x) I):=by
 have bc:n=xs.length:=Z.aL;have aE:Rr F ae xs p λW=>I W/\Ay W za (.slice A n zh) xs:=λx bd W af=>(aD x bd W af.1).mono λe w'⟨au,av,aa⟩=>⟨au,⟨av,af.2.ext aa⟩,aa⟩;have aF:∀W,(I W/\Ay W za (.slice A n zh) xs)->AB W A n xs:=λW af=>by obtain⟨A',n',c',e,h,_⟩:=af.2.aQ Ad aC;injection e with T be bf;subst T be bf;exact h
 have ag:=Qd A n zh xs p F ae w (λW=>I W/\Ay W za (.slice A n zh) xs) ⟨aA,Z⟩ aF hF aE;clear aE aF aA;subst bc;rcases SA p xs with⟨T,aG⟩|⟨J,aH,T,ah,aI,aJ⟩
 . have O:=filter_all aG;rw[T]at ag;have U:=zk O;clear Z T aG O;go_enter func234,ntmps234;go_wp2_with fail
   refine ag.mono ?_;rintro e w'⟨rfl,bh,bi⟩;skip;go_wp2;go_ret;exact⟨xs.length,rfl,by rw[U.out];exact bi,bh⟩
 . have aK:=(zl.1 ah).1;have aL:xs≠[]:=λe=>by subst e;simp at aK
   obtain⟨g,bK,bj,bk⟩:=Z.full aL;injection bj with hA1 hA2 hA3;subst hA1 hA3;have aM:(xs.take (J+1)).filter (λx=>!p x)++[aH]++xs.drop (J+1)=xs/\((xs.take (J+1)).filter (λx=>!p x)).length=J:=by rw[He ah,aI,filter_all aJ];refine⟨?_,Ca⟩;simp only[if_true,yg];rw[<-AM ah,xt]
   rw[T]at ag;have aN:=zk aM;have aO:=aB g rfl;have bn:(0:Int)<=(J:Int):=Ad;have br:(J:Int)<(xs.length:Int):=Ad;have bt:((J:Int)==-1)=false:=yv.2 Ad;have bu:=bk;clear Z T aJ aM ah aI aL aB;go_enter func234,ntmps234;go_wp2_with fail
   refine ag.mono ?_;rintro e bL⟨rfl,bw,bx⟩;skip;go_wp2;go_loopw[5,6](λi j wr=>∃(u E:Nat)(H:An),i=u/\j=E/\E<=xs.length/\u<E/\I wr/\Ay wr za (.slice g xs.length zh) ((xs.take E).filter (λx=>!p x)++H++xs.drop E)/\((xs.take E).filter (λx=>!p x)).length=u/\u+H.length=E)(λ_ j _=>xs.length-(intOf j).toNat);case atStart=>exact⟨J,J+1,[aH],rfl,by go_num,Ad,Ad,bw,by rw[aN.1];exact bx,aN.2,rfl⟩
   case round=>
    clear bn br bt aK;obtain⟨u,E,H,rfl,rfl,aP,aQ,aR,ab,O,aj⟩:=hrel;have U:=zk O;have ak:=zk aj;by_cases aS:E<xs.length
    . obtain⟨y,V⟩:∃y,xs[E]? =some y:=⟨_,zr aS⟩;obtain⟨aT,al,aU⟩:∃aT al,H=aT::al:=by
       cases H with
       |nil=>simp at aj;omega
       |cons a t=>exact⟨a,t,rfl⟩
      have aV:((xs.take E).filter (λx=>!p x)++H++xs.drop E)[E]? =some y:=by rw[yi (by rw[zu];omega)];rw[aaj,zu];rw[show E+(E-((List.filter (λx=>!p x) (List.take E xs)).length+H.length))=E by omega];exact V
      have bz:=ab.bm aV;have bA:=ab.cx u;obtain⟨z,am⟩:∃z,((xs.take E).filter (λx=>!p x)++H++xs.drop E)[u]? =some z:=⟨_,zr (by rw[zu,zu];omega)⟩;have aW:=ab.bm am;have bB:=aC y (zm V);obtain⟨bM,bN⟩:=bB;have aX:=He (p:=p) V;have aY:xs.drop E=y::xs.drop (E+1):=by obtain⟨au,av⟩:=zl.1 V;rw[y8 au,av]
      have an:=zk aX;have aZ:=zk aY;have bC:=zm V;have aw:=zk aU;have bO:(0:Int)<=(E:Int):=Ad;have bP:(E:Int)<(xs.length:Int):=Ad;have bD:(0:Int)<=(u:Int):=Ad;have bE:(u:Int)<(xs.length:Int):=Ad;clear O aj V aV am aX aY aU aP aQ;go_wp2_with fail
      rw[hF,x7];refine(aD y bC _ aR).mono ?_;rintro e w2⟨rfl,a1,ax⟩;have ay:=ab.ext ax;have bQ:=ax.cell aW;have bR:=ay.cx u;clear ax aW bA bz;cases ao:p y with
      |true=>
       have ac:=zk ao;clear ao;go_wp2;go_roundw;case rel=> refine⟨u,E+1,H++[y],rfl,by go_num,Ad,by have:=ak.out;omega,a1,?_,?_,by have:=ak.out;simp;omega⟩;rw[an.out,ac.out];have:=ay;rw[aZ.out]at this;simpa using this;rw[an.out,ac.out];simpa using U.out
       case measure=>simp[intOf];omega
      |false=>
       have ac:=zk ao;clear ao;go_wp2;go_roundw;case rel=>
        refine⟨u+1,E+1,al++[y],by go_num,by go_num,Ad,by have ad:=ak.out;have az:=aw.out;rw[az]at ad;simp at ad;omega,aO _ _ _ a1,?_,?_,by have ad:=ak.out;have az:=aw.out;rw[az]at ad;simp at ad⊢;omega⟩;rw[an.out,ac.out];have aa:=ay.cN (j:=u) (y:=y);have e:((xs.take E).filter (λx=>!p x)++H++xs.drop E).set u y=(xs.take E).filter (λx=>!p x)++[y]++(al++[y])++xs.drop (E+1):=by rw[aw.out,aZ.out,yy,aaw _ _ (by rw[U.out];exact zs _),U.out,adn];simp
        rw[e]at aa;exact aa;rw[an.out,ac.out];have:=U.out;simp;omega
       case measure=>simp[intOf];omega
    . obtain rfl:E=xs.length:=Ad;have aq:Ay wr za (.slice g xs.length zh) (xs.filter (λx=>!p x)++H):=by have:=ab;rw[x0,abr,yg]at this;exact this
      have a5:(xs.filter (λx=>!p x)).length=u:=by rw[x0]at O;exact O
      have bF:(xs.filter (λx=>!p x)++H).length=xs.length:=by rw[zu];omega
      have a6:∀t,t<xs.length-u->(wr.cell? ⟨g,u+t,none⟩).isSome=true:=λt bS=>by obtain⟨z,am⟩:∃z,(xs.filter (λx=>!p x)++H)[u+t]? =some z:=⟨_,zr Ad⟩;rw[aq.bm am];rfl
      have a7:∀t,t<xs.length-u->wr.frozen? ⟨g,u+t,none⟩=false:=λt _=>aq.cx _;have bT:=λbG=>Lib.run_clear_slice (P:=prog) wr 86 3 bG () underlying86 LP rfl rfl g u (xs.length-u) (zh-u) Ad a6 a7;obtain⟨bU,a8,a9,ba⟩:=Ay.dE (xs.length-u) u _ _ aq;have hcut:=a8.cut (k:=u) (by rw[ba];omega);rw[a9,ace a5]at hcut;have bH:=hcut;have bI:=aO.cells (List.replicate (xs.length-u) ()) u _ aR;have bV:=bu;have bD:(0:Int)<=(u:Int):=Ad;have bE:(u:Int)<=(xs.length:Int):=Ad;have bW:(u:Int)<(zh:Int):=Ad;have bX:(u:Int)<=(zh:Int):=Ad;have bY:(xs.length:Int)<=(zh:Int):=Ad;clear O aj aq a5 bF a6 a7 a8 a9 ba hcut aQ aP aS;go_wp2;go_ret;exact⟨u,rfl,bH,bI⟩
def Ro:Enters 299:=by intro args w;go_simp
def Zm(w za p u lv E zb zc H l q)(h:Bm w za p u lv E zb zc H)(J:-9223372036854775808<=l)(O:l<=9223372036854775807) (U:w.cell? ⟨q,0,none⟩=some (.pointer (some ⟨p,0,none⟩))):Calls prog 299 #[.int .i64 l,.pointer (some ⟨q,0,none⟩)] w λe w'=>e=.returned (.bool (decide (0<=CJ zc l)))/\Ae w w':=by
 go_enter func299,ntmps299;go_wp2_with fail
 refine(FW _ za p u lv E zb zc H l h J O).mono ?_;rintro e V⟨rfl,T⟩;go_wp2;go_ret;exact⟨rfl,T⟩
def Rk(zc:List AH)(c:An):Bool:=!(c.any λl=>decide (0<=CJ zc l))
def Ab9(w za p J lv O zb zc T A n c xs)(H:Bm w za p J lv O zb zc T)(U:AB w A n xs):AC 229 #[.pointer p,.slice A n c] w λe w'=>e=.returned (.bool (Rk zc xs))/\Ae w w':=by
 have E:Ae w (w.alloc (.cells #[.pointer p] 163)):=by grind
 have Z:=zk (BD w (.pointer p) 163);go_enter func229,ntmps229;go_wp2_with fail
 refine(I1 A n c xs (λl=>decide (0<=CJ zc l)) 299 #[.pointer w] _ (λW=>Ae (w.alloc (.cells #[.pointer p] 163)) W) (Ae.refl _) (λW u=>U.ext (E.trans u)) Ro (λx aa W u=>?_)).mono ?_;have hb:=U.2.2.1 x aa;exact(Zm W za p J lv O zb zc T x _ (H.ext (E.trans u)) hb.1 hb.2 (u.cell Z)).mono λe w'⟨ab,V⟩=>⟨ab,u.trans V,V⟩;rintro e ad⟨rfl,ac⟩;go_wp2;go_ret;exact⟨rfl,(E.trans ac)⟩
def PL(A:AD)(n c:Nat)(xs:An)(p:Int->Bool)(F:Nat)(V:Ck)(w:Aj)(I:Aj->Prop)(E:I w)(H:∀W,I W->AB W A n xs)(hF:Enters F)(ac:∀x,x∈xs->∀W,I W->AC F (#[.int .i64 x]++V) W λe w'=>e=.returned (.bool (p x))/\I w'):AC 289 #[.slice A n c,.func (.func F) #[] V] w λe w'=>e=.returned (CM p xs)/\I w':=by
 have ae:=(H w E).len;have ad:=(H w E).1;skip;go_enter func289,ntmps289;go_wp2;go_loopw[8](λi wr=>∃k:Nat,k<=n/\i=k/\(xs.take k).findIdx? p=none/\I wr)(λi _=>n-(intOf i).toNat);case atStart=>exact⟨0,zx _,rfl,rfl,E⟩
 case round=>
  obtain⟨k,af,rfl,Z,J⟩:=hrel;have O:=zk Z;clear Z;by_cases aa:k<n;obtain⟨ag,y,rfl,T,ah,aj,ak⟩:=(H wr J).at_ aa;go_wp2_with fail
  rw[hF,x7];refine(ac y (zm T) _ J).mono ?_;rintro e w'⟨rfl,ab⟩;skip;cases u:p y with
  |true=> have U:=zk u;clear u;go_wp2;go_ret;exact⟨Bn (by rw[CM,Gq O T U]),ab⟩
  |false=>
   have U:=zk u;clear u;go_wp2;go_roundw;case rel=>exact⟨k+1,Ad,by go_num,DU O T U,ab⟩
   case measure=>simp[intOf];omega
  go_wp2;go_ret;refine⟨Bn ?_,J⟩;have:=O.out;rw[CI ad aa]at this;rw[CM,this]
def AfV(za g o zh n:Nat)(E:An)(m:Nat)(I:Aj->Prop)(e:Bz)(w':Aj):Prop:=∃u,e=.returned (.slice (some ⟨g,o,none⟩) m zh)/\Ay w' za (.slice g (o+n) (o+zh)) u/\u.take (o+m)=E/\I w'
def Xe(za g o zh:Nat)(pre xs:An)(p:Int->Bool)(F:Nat)(ae:Ck)(w:Aj)(I:Aj->Prop)(G:Nat->Prop)(au:¬G g)(aD:I w)(av:pre.length=o)(aw:Ay w za (.slice g (o+xs.length) (o+zh)) (pre++xs)) (aE:ML g I)(aF:∀x∈xs,-9223372036854775808<=x/\x<=Bh)(bd:xs.length<=zh)(bK:o+xs.length<=1000000000000)(hF:Enters F) (aG:∀x,x∈xs->∀W,I W->AC F (#[.int .i64 x]++ae) W λe w'=>e=.returned (.bool (p x))/\I w'/\Au G W w'):AC 234 #[.slice (some ⟨g,o,none⟩) xs.length zh,.func (.func F) #[] ae] w (AfV za g o zh xs.length (pre++xs.filter λx=>!p x) (xs.filter λx=>!p x).length I):=by
 have aH:∀x,x∈xs->∀W,(I W/\Ay W za (.slice g (o+xs.length) (o+zh)) (pre++xs))->AC F (#[.int .i64 x]++ae) W λe w'=>e=.returned (.bool (p x))/\(I w'/\Ay w' za (.slice g (o+xs.length) (o+zh)) (pre++xs)):=λx be W af=>(aG x be W af.1).mono λe w'⟨ax,ay,Z⟩=>⟨ax,ay,af.2.stay Z (λk e=>by injection e with e;rw[<-e];exact au)⟩;have aI:∀W,(I W/\Ay W za (.slice g (o+xs.length) (o+zh)) (pre++xs))->AB W (some ⟨g,o,none⟩) xs.length xs:=λW af=>by
  refine⟨rfl,Ad,aF,λ_=>⟨_,rfl,λj x bf=>?_⟩⟩;have:=af.2.bm (j:=o+j) (x:=x) (by rw[yi Ad,av,aaq];exact bf);have e:(⟨g,o,none⟩:Addr).add j=⟨g,o+j,none⟩:=by unfold Addr.add;split<;>simp_all
  rw[e];exact this
 have ag:=PL (some ⟨g,o,none⟩) xs.length zh xs p F ae w (λW=>I W/\Ay W za (.slice g (o+xs.length) (o+zh)) (pre++xs)) ⟨aD,aw⟩ aI hF aH;have O:=zk av;clear aH aI aD av;rcases SA p xs with⟨aa,aJ⟩|⟨J,aK,aa,ah,aL,aM⟩
 . have T:=filter_all aJ;rw[aa]at ag;have U:=zk T;clear aw aa aJ T;go_enter func234,ntmps234;go_wp2_with fail
   refine ag.mono ?_;rintro e w'⟨rfl,bh,bi⟩;skip;go_wp2;go_ret;exact⟨pre++xs,by rw[U.out];rfl,bi,by rw[U.out,z1];rw[zu,O.out];exact zs _,bh⟩
 . have bj:=(zl.1 ah).1;have aN:(xs.take (J+1)).filter (λx=>!p x)++[aK]++xs.drop (J+1)=xs/\((xs.take (J+1)).filter (λx=>!p x)).length=J:=by rw[He ah,aL,filter_all aM];refine⟨?_,Ca⟩;simp only[if_true,yg];rw[<-AM ah,xt]
   rw[aa]at ag;have aO:=zk aN;have bk:(0:Int)<=(J:Int):=Ad;have bn:(J:Int)<(xs.length:Int):=Ad;have br:((J:Int)==-1)=false:=yv.2 Ad;clear aw aa aM aN ah aL;go_enter func234,ntmps234;go_wp2_with fail
   refine ag.mono ?_;rintro e bL⟨rfl,bt,bu⟩;skip;go_wp2;go_loopw[5,6](λi j wr=>∃(u E:Nat)(H:An),i=u/\j=E/\E<=xs.length/\u<E/\I wr/\Ay wr za (.slice g (o+xs.length) (o+zh)) (pre++((xs.take E).filter (λx=>!p x)++H++xs.drop E))/\((xs.take E).filter (λx=>!p x)).length=u/\u+H.length=E)(λ_ j _=>xs.length-(intOf j).toNat);case atStart=>exact⟨J,J+1,[aK],rfl,by go_num,Ad,Ad,bt,by rw[aO.1];exact bu,aO.2,rfl⟩
   case round=>
    clear bk bn br bj;obtain⟨u,E,H,rfl,rfl,aP,aQ,aR,ab,T,aj⟩:=hrel;have U:=zk T;have ak:=zk aj;by_cases aS:E<xs.length
    . obtain⟨y,V⟩:∃y,xs[E]? =some y:=⟨_,zr aS⟩;obtain⟨aT,al,aU⟩:∃aT al,H=aT::al:=by
       cases H with
       |nil=>simp at aj;omega
       |cons a t=>exact⟨a,t,rfl⟩
      have aV:((xs.take E).filter (λx=>!p x)++H++xs.drop E)[E]? =some y:=by rw[yi (by rw[zu];omega)];rw[aaj,zu];rw[show E+(E-((List.filter (λx=>!p x) (List.take E xs)).length+H.length))=E by omega];exact V
      have bw:=ab.bm (j:=o+E) (x:=y) (by rw[yi (by rw[O.out];omega),O.out,aaq];exact aV);have bx:=ab.cx (o+u);obtain⟨z,am⟩:∃z,((xs.take E).filter (λx=>!p x)++H++xs.drop E)[u]? =some z:=⟨_,zr (by rw[zu,zu];omega)⟩;have aW:=ab.bm (j:=o+u) (x:=z) (by rw[yi (by rw[O.out];omega),O.out,aaq];exact am);have bz:=aF y (zm V);obtain⟨bM,bN⟩:=bz;have aX:=He (p:=p) V;have aY:xs.drop E=y::xs.drop (E+1):=by obtain⟨ax,ay⟩:=zl.1 V;rw[y8 ax,ay]
      have an:=zk aX;have aZ:=zk aY;have bA:=zm V;have az:=zk aU;have bO:(0:Int)<=(E:Int):=Ad;have bP:(E:Int)<(xs.length:Int):=Ad;have bB:(0:Int)<=(u:Int):=Ad;have bC:(u:Int)<(xs.length:Int):=Ad;clear T aj V aV am aX aY aU aP aQ;go_wp2_with fail
      rw[hF,x7];refine(aG y bA _ aR).mono ?_;rintro e w2⟨rfl,a1,aA⟩;have aB:=ab.stay aA (λk e=>by injection e with e;rw[<-e];exact au);have bQ:=aA.cell aW au;have bR:=aB.cx (o+u);clear aA aW bx bw;cases ao:p y with
      |true=>
       have ac:=zk ao;clear ao;go_wp2;go_roundw;case rel=> refine⟨u,E+1,H++[y],rfl,by go_num,Ad,by have:=ak.out;omega,a1,?_,?_,by have:=ak.out;simp;omega⟩;rw[an.out,ac.out];have:=aB;rw[aZ.out]at this;simpa using this;rw[an.out,ac.out];simpa using U.out
       case measure=>simp[intOf];omega
      |false=>
       have ac:=zk ao;clear ao;go_wp2;go_roundw;case rel=>
        refine⟨u+1,E+1,al++[y],by go_num,by go_num,Ad,by have ad:=ak.out;have aC:=az.out;rw[aC]at ad;simp at ad;omega,aE _ _ _ a1,?_,?_,by have ad:=ak.out;have aC:=az.out;rw[aC]at ad;simp at ad⊢;omega⟩;rw[an.out,ac.out];have Z:=aB.cN (j:=o+u) (y:=y);rw[aaw _ _ (by rw[O.out];omega),O.out,aaq]at Z;have e:((xs.take E).filter (λx=>!p x)++H++xs.drop E).set u y=(xs.take E).filter (λx=>!p x)++[y]++(al++[y])++xs.drop (E+1):=by rw[az.out,aZ.out,yy,aaw _ _ (by rw[U.out];exact zs _),U.out,adn];simp
        rw[e]at Z;exact Z;rw[an.out,ac.out];have:=U.out;simp;omega
       case measure=>simp[intOf];omega
    . obtain rfl:E=xs.length:=Ad;have aq:Ay wr za (.slice g (o+xs.length) (o+zh)) (pre++(xs.filter (λx=>!p x)++H)):=by have:=ab;rw[x0,abr,yg]at this;exact this
      have a5:(xs.filter (λx=>!p x)).length=u:=by rw[x0]at T;exact T
      have bD:(xs.filter (λx=>!p x)++H).length=xs.length:=by rw[zu];omega
      have bE:=O.out;have a6:∀t,t<xs.length-u->(wr.cell? ⟨g,(o+u)+t,none⟩).isSome=true:=λt bS=>by obtain⟨z,am⟩:∃z,(pre++(xs.filter (λx=>!p x)++H))[o+u+t]? =some z:=⟨_,zr (by rw[zu];omega)⟩;rw[aq.bm am];rfl
      have a7:∀t,t<xs.length-u->wr.frozen? ⟨g,(o+u)+t,none⟩=false:=λt _=>aq.cx _;have bT:=λbF=>Lib.run_clear_slice (P:=prog) wr 86 3 bF () underlying86 LP rfl rfl g (o+u) (xs.length-u) (zh-u) Ad a6 a7;obtain⟨a8,bG,a9,bH⟩:=Ay.dE (xs.length-u) (o+u) _ _ aq;have ba:a8.take (o+u)=pre++xs.filter (λx=>!p x):=by rw[a9,<-yy,ace (by rw[zu];omega)]
      have bI:=zk ba;have bc:=zk a5;have bJ:=aE.cells (List.replicate (xs.length-u) ()) (o+u) _ aR;have bU:=bd;have bB:(0:Int)<=(u:Int):=Ad;have bC:(u:Int)<=(xs.length:Int):=Ad;have bV:(u:Int)<(zh:Int):=Ad;have bW:(u:Int)<=(zh:Int):=Ad;have bX:(xs.length:Int)<=(zh:Int):=Ad;clear T aj aq a5 bD a6 a7 a9 bH aQ aP aS ba bE;go_wp2;go_ret;exact⟨a8,by rw[bc.out];rfl,bG,by rw[bc.out];exact bI,bJ⟩
