import Derived.Test.YtdmempceikifeaaGreatA07
import Derived.BigRegion
set_option maxRecDepth 100000
set_option maxHeartbeats 16000000
set_option linter.all false
namespace Go.Proofs.YtdmempceikifeaaGreat
open Go.RowKit Tryz
section
open Go.Maps
end
section
open Go.Maps
def Wp{id zd}(h:KE id zd):(1<=id/\id<=10000000)/\zd.length<=1000/\∀x∈zd,-100000<=x/\x<=100000:=⟨h.1,h.2.2.1,λx u=>by have:=RP (h.2.2.2.1 x u);omega⟩
def WV{S}(h:CG S){id zd}(H:KE id zd)(b):CG ⟨S.rows++[Cf.mk S.size id zd b true],S.size+3+zd.length⟩:=by refine⟨λi r u=>?_,?_,λr u=>?_⟩;have E:=u;show r.pos=(((Be ((S.rows++[Cf.mk S.size id zd b true]).take i)).length:Nat):Int);by_cases hi:i<S.rows.length;rw[yh hi]at E;rw[ads Ad];exact h.pos i r E;rw[yi Ad]at E;have J:=(zl.1 E).1;simp at J;have e:i=S.rows.length:=Ad;subst e;simp at E;rw[<-E,ace];exact h.size;rfl;show S.size+3+(zd.length:Int)=(((Be (S.rows++[Cf.mk S.size id zd b true])).length:Nat):Int);rw[Mj,zu,G9,h.size];simp;omega;rcases zz.1 u with u|u;exact h.ok r u;rw[zy.1 u];exact(Wp H)
def AdW{S}(h:CG S){id zd}(u:KE id zd)(b z):Bb (S.rows++[Cf.mk S.size id zd b true]) z=if z=S.size then id else Bb S.rows z:=by
 have E:∀{a},(S.rows++[Cf.mk S.size id zd b true]).find? (BR z)=some a↔∃j,(S.rows++[Cf.mk S.size id zd b true])[j]? =some a/\a.pos=z/\a.live=true:=MB (WV h u b);unfold Bb;by_cases e:z=S.size;rw[zq e,(E (a:=Cf.mk S.size id zd b true)).2 ⟨S.rows.length,AG,e.symm,rfl⟩];rw[zo e,aci];have H:[Cf.mk S.size id zd b true].find? (BR z)=none:=by simp[BR,yb e]
 rw[H,Option.or_none]
def AB.cf{w w' F A n xs}(h:AB w A n xs)(E:Au F w w')(H:0<n->Fa F A):AB w' A n xs:=by rcases xe n with u|u;exact⟨h.1,h.2.1,h.2.2.1,λJ=>Ad⟩;exact h.stay E (H u)
def Aee{w V W T H Z za p u K lv J v4 S S' an f}(O:BL V za p u lv K S)(ad:Ae w V)(aa:Ae V W)(ae:Ay T za J an)(U:W.grownBy T lv.ownBlock) (ao:∀k,J.ownBlock=some k->lv.ownBlock=some k\/W.heap.size<=k)(af:Ay H za v4 (Be S'.rows))(ab:T.grownBy H J.ownBlock)(aq:v4.ownBlock=J.ownBlock\/v4.ownBlock=some T.heap.size) (au:Cb Z u (K+1) f)(av:∀z,f z=Bb S'.rows z)(ac:(H.setCell ⟨p,0,none⟩ v4).grownBy Z (some u))(hi:CG S')(aw:S'.rows.length<=K+1)(ax:K+1<=1000000):LO w Z za p u lv (K+1) S':=by
 have E:=O.ext aa;have ag:=E.J.grown U (yb (E.row.ai E.J (by decide)));have ah:=ag.grown ab (yb (ae.ai ag (by decide)));have aj:p≠u:=λe=>O.br.bR O.J e.symm;have ak:=E.br.grown U (yb (E.br.bV E.row));have al:=af.setCell (p:=⟨p,0,none⟩) (λk e ay=>(af.ai ah (by decide)) (by rw[e,ay])) v4;have az:Cb (H.setCell p v4) u K (Bb S.rows):=(ak.grown ab (yb (ak.bV (Dn.dm ae)))).keep (yt H p _ u (yb aj));have aA:=ad.size_le;have aB:=aa.size_le;have aC:=U.size;have am:∀k,J.ownBlock=some k->LQ p u lv k\/w<=k:=λk e=>by rcases ao k e with e|e;exact Or.inl (Or.inr (Or.inr e));exact Or.inr Ad
 refine⟨v4,u,⟨((ah.ad 0 v4).grown ac (by simpa using aj)),Dn.dm (al.kept ac (Or.inr (az.bV (Dn.dm al)))),au.congr av,O.bp,O.bu,hi,aw,ax⟩,?_,λb hb=>?_⟩;refine Au.grown (Au.setCell (p:=p) (Au.grown (Au.grown (Ae.stay (ad.trans aa)) U (λk e=>Or.inl (Or.inr (Or.inr e)))) ab (λk e=>am k e)) (Or.inl (Or.inl rfl)) v4) ac (λk e=>by cases e;exact Or.inl (Or.inr (Or.inl rfl)));rcases hb with rfl|rfl|hb;exact Or.inl (Or.inl rfl);exact Or.inl (Or.inr (Or.inl rfl));rcases aq with e|e;exact am b (e▸hb);rw[e]at hb;cases hb;exact Or.inr Ad
def AfM(w:Aj)(za p E:Nat)(lv:Aw)(K:Nat)(S:Fb)(id:Int)(A:AD)(n c:Nat)(zd:An)(b:Bool)(H:BL w za p E lv K S)(aa:AB w A n zd)(ao:0<n->Fa (LQ p E lv) A)(J:KE id zd)(aq:K+1<=1000000):AC 138 #[.pointer p,id,.slice A n c,b] w λe w'=>e=.returned (.tuple #[S.size,()])/\LO w w' za p E lv (K+1) (Du S id zd b):=by
 have ah:=H.J.cell 1;have aj:¬id<1:=by have:=J.1;omega
 have aM:¬10000000<id:=by have:=J.1;omega
 have aN:=J.2.2.1;have aO:=H.len;have ak:=H.inv.size;have al:=aa.1;obtain⟨au,av,rfl,_⟩:=H.row.form;have am:=zk ak;have aw:=zk al;have aP:n<=1000:=Ad;clear ak al;cases b;all_goals
  go_enter func138,ntmps138;go_wp2_with(go_at_call 214;refine(L7 _ _ _ ah).mono ?_;rintro e w'⟨rfl,rfl⟩)
  refine(JM _ _ _ zd 100000 _ aa J.2).mono ?_;rintro e T⟨rfl,ab⟩;have u:=H.ext ab;have ax:=u.J.cell 0;have ay:=u.J.cell 1;clear ah;go_wp2_with(first
   |(at_builtin;refine Aci _ rfl (.tmp 38) (.tmp 43) rfl za _ (Be S.rows) rfl (u.row.ext ((Ae.refl _).alloc _)) _ _ _ _ rfl (Ka #[id,n,_] 3 [id,(n:Int),_] 3 rfl rfl Ax (by intro x az;simp at az;omega) T _ rfl) Ax Ad (by have:=u.J.lt;have:=u.bp;simp;omega) ?_;intro aQ an ac U O;obtain⟨aR,aS,aT,rfl⟩:=ac.form;have aA:=AB.cf (aa.ext (ab.trans ((Ae.refl T).alloc _))) ((Au.refl (λb=>(Value.slice au (Be S.rows).length av).ownBlock=some b) _).grown U (λk e=>Or.inl e)) (λaj aB e aC=>ao aj aB e (Or.inr (Or.inr aC)));have ad:=(u.J.alloc _).grown U (yb (u.row.ai u.J Ax));have aD:za<=an:=(by have:=ad.lt;have:=u.bp;omega);have V:=ac;have aE:=O;clear ac O)
   |(at_builtin;refine Kg _ rfl (.tmp 44) (.tmp 45) rfl za _ _ rfl V _ _ _ zd rfl aA Ca aD ?_;intro v4 aF ae af O;obtain⟨aU,aV,aW,rfl⟩:=ae.form;have Z:=ad.grown af (yb (V.ai ad Ax));have aX:=Z.cell 0;have aY:=Z.cell 1;have f0:=Z.frozen 0;have ag:Cb an E K (Bb S.rows):=(u.br.ext ((Ae.refl T).alloc _)).grown U (yb (u.br.bV u.row));have aG:=ag.grown af (yb (ag.bV (Dn.dm V)));have aH:=ae;have aI:=O;clear ae O Z ag ax ay)
   |(at_mapUpdate;refine Ed _ rfl (.tmp 52) (.tmp 53) (.tmp 54) rfl E K (Bb S.rows) rfl (aG.keep (yt aF p _ E (u.br.bR u.J))) Ad _ _ rfl rfl Ad Ad ?_;intro aZ aJ aK;skip))
  go_ret2;refine⟨PY (by rw[am.out]) rfl,?_⟩;have aL:=WV H.inv J;refine Aee u ab ((Ae.refl T).alloc _) V U aE (S':=⟨_,_⟩) ?_ af aI aJ (λz=>?_) aK (aL _) ?_ aq;have:=aH;rw[Mj];simpa[FK,Hr,aw.out]using this;show(if z=(((Be S.rows).length:Nat):Int)then id else Bb S.rows z)=_;rw[AdW H.inv J,am.out];have:=H.bh;simp;omega
end
