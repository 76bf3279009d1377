import Derived.Test.YtdmempceikifeaaGreatA27
import Derived.Test.YtdmempceikifeaaGreatA26
import Derived.Test.YtdmempceikifeaaGreatA23
set_option maxRecDepth 100000
set_option maxHeartbeats 16000000
set_option linter.all false
namespace Go.Proofs.YtdmempceikifeaaGreat
open Go.RowKit Tryz
def LT:AT:=DM [Cl] (C9 2) 1 0
def Oh:LT=[[1],[3],[3],[4],[2],[-1,-2,-3]]:=by decide+kernel
def AcL(u:List Bool)(h:u.length=4):¬Db LT u<0:=by
 rw[Oh];obtain⟨a,b,c,d,rfl⟩:∃a b c d,u=[a,b,c,d]:=by rcases u with _|⟨a,_|⟨b,_|⟨c,_|⟨d,_|⟨e,l⟩⟩⟩⟩⟩<;>simp at h;exact⟨a,b,c,d,rfl⟩
 clear h;revert a b c d;decide+kernel
def Agx:¬Qo LT:=by
 rintro⟨R,V,T⟩;rw[Oh]at T;have one:∀x:Int,[x]∈([[1],[3],[3],[4],[2],[-1,-2,-3]]:AT)->x∈Az R:=λx U=>by rcases T [x] U with⟨y,H,u⟩|⟨y,H,z,u,J,_⟩;rw[zy.1 H]at u;exact u;rw[zy.1 H,zy.1 u]at J;exact absurd rfl J
 have H:=one 1 Ax;have u:=one 2 Ax;have J:=one 3 Ax;have neg:∀x:Int,0<x->x∈Az R->-x∉Az R:=λx _ U Z=>Good.neg V Z U;rcases T [-1,-2,-3] Ax with⟨y,O,E⟩|⟨y,O,z,aa,ab,E,ac⟩;simp at O;rcases O with rfl|rfl|rfl;exact neg 1 Ax H E;exact neg 2 Ax u E;exact neg 3 Ax J E;simp at O;rcases O with rfl|rfl|rfl;exact E H;exact E u;exact E J
def AhE(w:World)(e:Ending)(w':World):Prop:=∃zi M E H X u J P,e=.returned (.tuple #[.agg #[.int .i64 2,.int .i64 zi,.slice M E H,.slice X u J],.int .i64 0])/\(∀W,Au (λb=>b<w) w' W->DP W X u P)/\u<=10000/\MW 4 LT P/\Ae w w'
def AaC:LT.length<=10000:=by rw[Oh];decide
def U0:=Sf (zc:=[Cl]) (l:=C9 2) (S:=1) (zj:=0) (by decide) (by decide) (by decide) (λr u=>by cases zy.1 u;decide) AaC
def Ah9:Ov 4 LT:=U0.1
def Sv(F:AD)(E H:Nat)(w:Aj)(h:Bf w F E LT)(O:E<=H):AC 7 #[.agg #[.int .i64 4,.slice F E H],.agg #[.int .i64 50,.int .i64 1000,.int .i64 5],.int .i64 100] w (AhE w):=by refine(Sw 4 F E H LT 50 1000 5 100 w h O U0.1 Ax AaC U0.2 Ax Ax Ax Ax).mono ?_;rintro e w'(⟨h,_⟩|⟨_,v,rfl,kind,zi,A,n,c,B,m,d,T,U,V⟩);exact absurd h Ax;cases T;rcases V with⟨_,Z,_,u,J⟩|⟨rfl,P,u,J,ab⟩|⟨_,_,u⟩;exact absurd J (AcL Z u);have aa:=u w' (Au.refl _ w');exact⟨zi,A,n,c,B,m,d,P,rfl,u,by have:=aa.1;omega,J,U⟩;exact absurd (u Ax) Agx
def Aah (w : World) : Calls prog 43 #[.string ⟨#[111, 98, 106, 101, 99, 116, 32, 49, 32, 49, 32, 48, 32, 49, 10, 114, 111, 119, 32, 48, 32, 48, 32, 48, 32, 55, 10, 99, 97, 108, 108, 32, 49, 32, 48, 10, 114, 101, 116, 32, 49, 32, 54, 10]⟩, .int .i64 100, .agg #[.int .i64 50, .int .i64 1000, .int .i64 5]] w fun e w' => ∃ P, MW 4 LT P ∧ P.length ≤ 10000 ∧ Afk P w e w' := by
  have aA := (Aq.new w 27 #[.int .i64 50, .int .i64 1000, .int .i64 5]).alloc (.cells #[.int .i64 0, .int .i64 0, .int .i64 0, .slice none 0 0, .slice none 0 0] 54)
  have aq := Aq.new (w.alloc (.cells #[.int .i64 50, .int .i64 1000, .int .i64 5] 27)) 54 #[.int .i64 0, .int .i64 0, .int .i64 0, .slice none 0 0, .slice none 0 0]
  have aB : Ae w ((w.alloc (.cells #[.int .i64 50, .int .i64 1000, .int .i64 5] 27)).alloc (.cells #[.int .i64 0, .int .i64 0, .int .i64 0, .slice none 0 0, .slice none 0 0] 54)) := by grind
  rw [z3] at aq
  go_enter func43, ntmps43
  go_wp2_with fail
  generalize (w.alloc (.cells #[.int .i64 50, .int .i64 1000, .int .i64 5] 27)).alloc (.cells #[.int .i64 0, .int .i64 0, .int .i64 0, .slice none 0 0, .slice none 0 0] 54) = aQ at *
  have aR := aA
  have aC := aq
  have aS := aB
  clear aA aq aB
  refine (Lu aQ).mono ?_
  rintro e am ⟨R, c, B, d, A, a, F, Z, aa, rfl, aD, aE⟩
  have u := Aq.new am 109 #[.int .i64 1, .int .i64 1, .int .i64 0, .slice R 1 c, .slice B 2 d, .slice A 1 a, .int .i64 4, .slice F Z aa, .int .i64 0, .int .i64 0, .bool false]
  have au : Ae am (am.alloc (.cells #[.int .i64 1, .int .i64 1, .int .i64 0, .slice R 1 c, .slice B 2 d, .slice A 1 a, .int .i64 4, .slice F Z aa, .int .i64 0, .int .i64 0, .bool false] 109)) := (Ae.refl _).alloc _
  have aF := aD.ext au
  go_upto_region 2 with fail
  generalize am.alloc (.cells #[.int .i64 1, .int .i64 1, .int .i64 0, .slice R 1 c, .slice B 2 d, .slice A 1 a, .int .i64 4, .slice F Z aa, .int .i64 0, .int .i64 0, .bool false] 109) = w2 at *
  have aT := u.cell 9
  have aU := u.cell 10
  have av := u
  have af := aF
  have aw := aE.trans au
  clear u aD aF aE au
  go_upto_region 6 with fail
  clear aT aU
  have hmx : prog.follows .mixedOrders = true := by kernel_rfl
  have aG := av.cell 6
  have aH := av.cell 7
  have an := aR.ext aw
  have aI := an.cell 0
  have aJ := an.cell 1
  have aK := an.cell 2
  clear an
  go_cut [8, 9] (fun aV aW ax => ∃ g zi M O T X E H P, aV = .pointer (some ⟨g, 0, none⟩) ∧ aW = .int .i64 0 ∧ Aq ax g 41 #[.int .i64 2, .int .i64 zi, .slice M O T, .slice X E H] ∧ (∀ W, Au (fun b => b < w2.heap.size) ax W → DP W X E P) ∧ E ≤ 10000 ∧ MW 4 LT P ∧ Ae w2 ax)
  case first =>
    have aL : Ae w2 ((w2.alloc (.cells #[.int .i64 0, .int .i64 0, .slice none 0 0, .slice none 0 0] 41)).drew) := ((Ae.refl w2).alloc _).drew
    have aM := (Aq.new w2 41 #[.int .i64 0, .int .i64 0, AI, AI]).ext (Ae.refl _).drew
    have ab : Ae w2 (w2.alloc (.cells #[(), (), AI, AI] 41)) := (Ae.refl w2).alloc _
    have bu := ab.cell aG
    have bw := ab.cell aH
    have bx := ab.cell aI
    have bz := ab.cell aJ
    have bA := ab.cell aK
    clear ab
    go_region_law (go_simp; first | (go_at_call 109; (refine (XD _).mono ?_); rintro e W ⟨rfl, rfl⟩) | (go_at_call 7; (refine (Sv F Z aa w2.drew (af.2.2.2.1.ext (Ae.refl w2).drew) af.2.2.2.2.1).mono ?_); rintro e ag ⟨zi, M, O, T, X, E, H, P, rfl, V, ac, ad, ae⟩; have ay := (Ae.refl w2).drew.trans ae; clear ae) | (go_at_call 7; (refine (Sv F Z aa ((w2.alloc (.cells #[(), (), AI, AI] 41)).drew) (af.2.2.2.1.ext aL) af.2.2.2.2.1).mono ?_); rintro e ag ⟨zi, M, O, T, X, E, H, P, rfl, V, ac, ad, ae⟩; have ay := aL.trans ae; have U := aM.ext ae; have bB := U.cell 0; have bC := U.cell 1; have bD := U.cell 2; have bE := U.cell 3; have bF := U.frozen 0; have bG := U.frozen 1; have bH := U.frozen 2; have bI := U.frozen 3; clear ae))
    all_goals
      go_wp2_with fail
      go_meet
      first
        | (have aX := U
           have ah : w2 < ((w2.alloc (.cells #[(), (), AI, AI] 41)).drew).heap.size := aM.lt
           exact ⟨w2, zi, M, O, T, X, E, H, P, rfl, rfl, (((aX.ad 0 _).ad 1 _).ad 2 _).ad 3 _, fun W aj => V W (Au.trans (((((Au.refl (fun b => b < ((w2.alloc (.cells #[(), (), AI, AI] 41)).drew).heap.size) ag).setCell (p := w2) (.inl ah) (.int .i64 2)).setCell (p := ⟨w2, 1, none⟩) (.inl ah) zi).setCell (p := ⟨w2, 2, none⟩) (.inl ah) (.slice M O T)).setCell (p := ⟨w2, 3, none⟩) (.inl ah) (.slice X E H)) (aj.mono (fun j _ e => x6 (show j < w2 from e) (aag ah))) (fun j _ e => e)), ac, ad, ((((ay.setCell (p := w2) (zs _) (.int .i64 2)).setCell (p := ⟨w2, 1, none⟩) (zs _) zi).setCell (p := ⟨w2, 2, none⟩) (zs _) (.slice M O T)).setCell (p := ⟨w2, 3, none⟩) (zs _) (.slice X E H))⟩)
        | exact ⟨ag, zi, M, O, T, X, E, H, P, rfl, rfl, Aq.new ag _ _, fun W aj => V W (Au.trans ((Au.refl _ ag).alloc _) aj (fun j _ e => e)), ac, ad, ay.alloc _⟩
  case rest =>
    obtain ⟨g, zi, M, O, T, X, E, H, P, rfl, rfl, ak, aN, ac, ad, ao⟩ := hcut
    generalize wc = al at *
    have u := av.ext ao
    have aY := u.cell 0
    have aZ := u.cell 1
    have a1 := u.cell 2
    have a5 := u.cell 3
    have a6 := u.cell 4
    have a7 := u.cell 5
    have a8 := u.cell 6
    have a9 := u.cell 7
    have ba := u.cell 8
    have bc := u.cell 9
    have bd := u.cell 10
    have be := ak.cell 0
    have bf := ak.cell 1
    have bh := ak.cell 2
    have bi := ak.cell 3
    have V := aN
    have aO := aw.trans ao
    have bj := af.ext ao
    clear u ak aN ao aG aH aI aJ aK
    go_wp2_with fail
    refine (Aar R c B d A a F Z aa zi M O T X E H P al bj (V al (Au.refl _ al)) ac ad).mono ?_
    rintro e bk ⟨rfl, az⟩
    have J := aC.ext (aO.trans az)
    have bJ := J.cell 0
    have bK := J.cell 1
    have bL := J.cell 2
    have bM := J.cell 3
    have bN := J.cell 4
    have f0 := J.frozen 0
    have f1 := J.frozen 1
    have f2 := J.frozen 2
    have f3 := J.frozen 3
    have f4 := J.frozen 4
    have bn := aS.trans (aO.trans az)
    clear aY aZ a1 a5 a6 a7 a8 a9 ba bc bd be bf bh bi
    go_wp2
    have aP := ((((((Au.refl (fun b => b = w + 1) bk).setCell (p := ⟨w + 1, 0, none⟩) (.inl rfl) (.int .i64 5)).setCell (p := ⟨w + 1, 1, none⟩) (.inl rfl) ()).setCell (p := ⟨w + 1, 2, none⟩) (.inl rfl) ()).setCell (p := ⟨w + 1, 3, none⟩) (.inl rfl) AI).setCell (p := ⟨w + 1, 4, none⟩) (.inl rfl) (.slice X E H))
    refine yw (xq rfl _ _ (w + 1) 54 _ (0, 0) _ rfl (((((J.ad 0 _).ad 1 _).ad 2 _).ad 3 _).ad 4 _) underlying54 rfl AJ) rfl ⟨P, ad, by have br := (V al (Au.refl _ al)).1; have bt := ac; omega, X, E, H, rfl, ?_, Au.ext (Au.ay bn aP) (fun j e => by have e : j = w + 1 := e; omega)⟩
    have bO : w.heap.size + 1 < w2.heap.size := by have br := aC.lt; have bt := aw.size; omega
    exact fun W aj => V W (Au.trans (Au.trans az.stay (aP.mono (fun j _ e => by have e : j = w + 1 := e; show j < w2.heap.size; omega)) (fun j _ e => e)) (aj.mono (fun j _ e => by have e : j < w := e; show j < w2.heap.size; omega)) (fun j _ e => e))
def ZG(w:Aj):AC 12 #[.string ⟨#[111,98,106,101,99,116,32,49,32,49,32,48,32,49,10,114,111,119,32,48,32,48,32,48,32,55,10,99,97,108,108,32,49,32,48,10,114,101,116,32,49,32,54,10]⟩,.int .i64 100] w λe w'=>∃P,MW 4 LT P/\P.length<=10000/\Afk P w e w':=by
 have hb:=Aq.new w 54 #[(),(),(),AI,AI];have H:Ae w (w.alloc (.cells #[(),(),(),AI,AI] 54)):=(Ae.refl _).alloc _;go_enter func12,ntmps12;go_wp2_with fail
 generalize w.alloc (.cells #[(),(),(),AI,AI] 54)=E at *;have J:=hb;have ac:=H;clear hb H;refine(Aah E).mono ?_;rintro e ad⟨P,O,T,X,U,V,rfl,ae,Z⟩;have u:=J.ext Z;have ag:=u.cell 0;have ah:=u.cell 1;have aj:=u.cell 2;have ak:=u.cell 3;have al:=u.cell 4;have f0:=u.frozen 0;have f1:=u.frozen 1;have f2:=u.frozen 2;have f3:=u.frozen 3;have f4:=u.frozen 4;have aa:=And.intro O T;clear O T;go_wp2;have ab:=((((((Au.refl (λb=>b=w) ad).setCell (p:=w) (.inl rfl) (.int .i64 5)).setCell (p:=⟨w,1,none⟩) (.inl rfl) ()).setCell (p:=⟨w,2,none⟩) (.inl rfl) ()).setCell (p:=⟨w,3,none⟩) (.inl rfl) AI).setCell (p:=⟨w,4,none⟩) (.inl rfl) (.slice X U V));refine yw (xq rfl _ _ w 54 _ (0,0) _ rfl (((((u.ad 0 _).ad 1 _).ad 2 _).ad 3 _).ad 4 _) underlying54 rfl AJ) rfl ⟨P,aa.1,aa.2,X,U,V,rfl,λW af=>?_,Au.ext (Au.ay (ac.trans Z) ab) (λj e=>aa6 e.symm)⟩;have am:=J.lt;exact ae W (Au.trans (ab.mono (λj _ e=>by have e:j=w:=e;show j<E;omega)) (af.mono (λj _ e=>by have e:j<w:=e;show j<E;omega)) (λj _ e=>e))
def Afx(w:Aj)(e:Bz)(w':Aj):Prop:=∃F u E,e=.returned (.tuple #[.agg #[.int .i64 4,.slice F u E],()])/\Bf w' F u LT/\Ae w w'
def Vk(w:Aj):AC 13 #[.string ⟨#[111,98,106,101,99,116,32,49,32,49,32,48,32,49,10,114,111,119,32,48,32,48,32,48,32,55,10,99,97,108,108,32,49,32,48,10,114,101,116,32,49,32,54,10]⟩] w (Afx w):=by
 have hb:=Aq.new w 34 #[(),AI];have V:Ae w (w.alloc (.cells #[(),AI] 34)):=(Ae.refl _).alloc _;go_enter func13,ntmps13;go_wp2_with fail
 generalize w.alloc (.cells #[(),AI] 34)=ae at *;have Z:=hb;have af:=V;clear hb V;refine(Lu ae).mono ?_;rintro e E⟨R,c,B,d,A,a,F,H,J,rfl,aa,O⟩;have T:=Aq.new E 109 #[AF,AF,(),.slice R 1 c,.slice B 2 d,.slice A 1 a,.int .i64 4,.slice F H J,(),(),false];have U:Ae E (E.alloc (.cells #[AF,AF,(),.slice R 1 c,.slice B 2 d,.slice A 1 a,.int .i64 4,.slice F H J,(),(),false] 109)):=(Ae.refl _).alloc _;have ab:=aa.ext U;go_upto_region 2 with fail
 generalize E.alloc (.cells #[AF,AF,(),.slice R 1 c,.slice B 2 d,.slice A 1 a,.int .i64 4,.slice F H J,(),(),false] 109)=w2 at *;have al:=T.cell 6;have am:=T.cell 7;have an:=T.cell 9;have u:=Z.ext (O.trans U);have ao:=u.cell 0;have aq:=u.cell 1;have f0:=u.frozen 0;have f1:=u.frozen 1;have ac:=(Z.ext O).lt;have ag:w.heap.size≠E.heap.size:=ad6 ac;have au:=yb ag;have hmx:prog.follows .mixedOrders=true:=AJ;have ah:=ab;have aj:=af.trans (O.trans U);clear T aa ab O U ac;go_region_o
 all_goals go_wp2;refine yw (CS rfl _ _ w 34 #[_,_] (0,0) _ rfl (((u.ad 0 _).ad 1 _).ext (Ae.refl _).drew) underlying34 rfl AJ) rfl ?_;have ad:=(((Au.refl (λb=>b=w) w2).setCell (p:=w) (.inl rfl) (.int .i64 4)).setCell (p:=⟨w,1,none⟩) (.inl rfl) (.slice F H J)).drew;obtain⟨b,ak⟩:=ah.2.2.2.2.2;exact⟨F,H,J,rfl,(AW.box ak u Ax Ax ad).dS,Au.ext (Au.ay aj ad) (λj e=>aa6 e.symm)⟩
def Zt(X:AD)(E H:Nat)(P:List Cz)(w:Aj)(aa:DP w X E P)(ad:MW 4 LT P)(av:P.length<=10000):AC 17 #[.string ⟨#[111,98,106,101,99,116,32,49,32,49,32,48,32,49,10,114,111,119,32,48,32,48,32,48,32,55,10,99,97,108,108,32,49,32,48,10,114,101,116,32,49,32,54,10]⟩,.agg #[.int .i64 5,(),(),AI,.slice X E H]] w λe w'=>e=.returned true/\Ae w w':=by
 have ae:E<=10000:=by have:=aa.1;omega
 have hb:=Aq.new w 54 #[.int .i64 5,(),(),AI,.slice X E H];have ab:Ae w (w.alloc (.cells #[.int .i64 5,(),(),AI,.slice X E H] 54)):=(Ae.refl _).alloc _;have af:=aa.ext ab;clear aa av;go_enter func17,ntmps17;go_wp2_with fail
 generalize w.alloc (.cells #[.int .i64 5,(),(),AI,.slice X E H] 54)=aw at *;have ax:=hb;have ay:=ab;clear hb ab;refine(Lu aw).mono ?_;rintro e U⟨R,c,B,d,A,a,F,O,V,rfl,ag,ac⟩;have u:=Aq.new U 109 #[AF,AF,(),.slice R 1 c,.slice B 2 d,.slice A 1 a,.int .i64 4,.slice F O V,(),(),false];have Z:Ae U (U.alloc (.cells #[AF,AF,(),.slice R 1 c,.slice B 2 d,.slice A 1 a,.int .i64 4,.slice F O V,(),(),false] 109)):=(Ae.refl _).alloc _;have ah:=ag.ext Z;go_upto_region 2 with fail
 generalize U.alloc (.cells #[AF,AF,(),.slice R 1 c,.slice B 2 d,.slice A 1 a,.int .i64 4,.slice F O V,(),(),false] 109)=w2 at *;have aj:=u.cell 9;have ak:=u.cell 10;have J:=ax.ext (ac.trans Z);have al:=J.cell 0;have az:=J.cell 1;have aA:=J.cell 2;have aB:=J.cell 3;have am:=J.cell 4;have aC:=u;have aD:=ah;have an:=ac.trans Z;clear u ag ah ac Z;go_wp2_with fail
 refine(St X E H P w2 (af.ext an) ad.may ae).mono ?_;rintro e aE⟨rfl,T⟩;have hb:=J.ext T;have al:=hb.cell 0;have am:=hb.cell 4;have u:=aC.ext T;have aF:=u.cell 6;have aG:=u.cell 7;have aj:=u.cell 9;have ak:=u.cell 10;have ao:=aD.ext T;have aq:=an.trans T;clear hb u T az aA aB;go_wp2_with fail
 refine(N8 4 F O V LT X E H P aE ao.2.2.2.1 (af.ext aq) (by have aH:=ao.2.2.2.1.1;have aJ:LT.length=6:=(by rw[Oh];rfl);have aK:LT.length=O:=aH;omega) ae ad).mono ?_;rintro e aL⟨rfl,au⟩;have aI:=ay.trans (aq.trans au);clear au al am aF aG aj ak;go_wp2;go_ret;exact⟨rfl,aI⟩
def AfX:(Fw 4 LT).length=0:=by rw[Oh];decide+kernel
def Af1(w:Aj):AC 5 #[] w λe w'=>e=.returned true/\Ae w w':=by
 go_enter func5,ntmps5;go_wp2_with fail
 refine(ZG w).mono ?_;rintro e u⟨P,aq,au,A,n,c,rfl,ae,av⟩;obtain rfl:P.length=n:=(ae u (Au.refl _ _)).1;have aw:=Aq.new u 54 #[.int .i64 5,(),(),AI,.slice A P.length c];have af:Ae u (u.alloc (.cells #[.int .i64 5,(),(),AI,.slice A P.length c] 54)):=(Ae.refl _).alloc _;have ax:=zk (λW(aU:Ae u W)=>ae W aU.stay);generalize aV:u.alloc (.cells #[.int .i64 5,(),(),AI,.slice A P.length c] 54)=w2 at *;have ay:=zk aq;have az:=zk au;have aW:=zk (av.trans af);have aA:=zk af;have aB:=zk aw;clear ae aq au av af aw;go_wp2_with fail
 refine(Vk w2).mono ?_;rintro e T⟨F,E,O,rfl,hF,ag⟩;clear aV;have U:=Aq.new T 34 #[.int .i64 4,.slice F E O];have V:Ae T (T.alloc (.cells #[.int .i64 4,.slice F E O] 34)):=(Ae.refl _).alloc _;generalize aX:T.alloc (.cells #[.int .i64 4,.slice F E O] 34)=aC at *;have v4:=(aB.out.ext (ag.trans V)).cell 4;have u0:=U.cell 0;have u1:=U.cell 1;have aD:E<=10000:=by
  have bj:=hF.1;have bk:LT.length=6:=by rw[Oh];rfl
  omega
 have aE:=zk (hF.ext V);have aF:=zk U;have ah:=zk (ag.trans V);have aG:=zk aD;clear U hF ag V aD;go_wp2_with fail
 refine(N8 4 F E O LT A P.length c P aC aE.out (ax.out aC (aA.out.trans ah.out)) aG.out az.out ay.out).mono ?_;rintro e aY⟨rfl,aH⟩;have aZ:=zk aH;clear aX aH u0 u1 v4;go_wp2_with fail
 refine(Sk aY).mono ?_;rintro e Z⟨R,aa,B,d,rfl,⟨aI,_⟩,⟨aJ,aK,_⟩,aL⟩;have H:=Aq.new Z 59 #[AF,AF,(),.slice R 1 aa,.slice B 2 d];have ab:Ae Z (Z.alloc (.cells #[AF,AF,(),.slice R 1 aa,.slice B 2 d] 59)):=(Ae.refl _).alloc _;generalize a1:Z.alloc (.cells #[AF,AF,(),.slice R 1 aa,.slice B 2 d] 59)=a5 at *;have a6:=H.cell 0;have a7:=H.cell 1;have a8:=H.cell 2;have a9:=H.cell 3;have aj:=H.cell 4;have aM:=zk (Adm R aa B d a5 (Bi.ext aI ab) (aJ.ext ab) aK);have ba:=zk (aZ.out.trans (aL.trans ab));clear H aI aJ aK aL ab;go_wp2_with fail
 refine aM.out.mono ?_;rintro e ac⟨ak,al,am,d8,rfl,aN⟩;clear a1 a6 a7 a8 a9 aj aM;have aO:=Aq.new ac 59 #[AF,AF,(),.slice ak 1 al,.slice am 2 d8];have aP:Ae ac (ac.alloc (.cells #[AF,AF,(),.slice ak 1 al,.slice am 2 d8] 59)):=(Ae.refl _).alloc _;generalize bc:ac.alloc (.cells #[AF,AF,(),.slice ak 1 al,.slice am 2 d8] 59)=bd at *;have ad:=ba.out.trans (aN.trans aP);have u0:=(aF.out.ext ad).cell 0;have u1:=(aF.out.ext ad).cell 1;have aQ:=zk ad;have be:=zk aO;clear ad aO aN aP;go_wp2_with fail
 refine(Abj 4 F E O LT bd (aE.out.ext aQ.out) (z7 aG.out Ax) ⟨Ah9,Ax⟩).mono ?_;rintro e aR⟨rfl,an⟩;rw[AfX];clear bc u0 u1;have ao:=aQ.out.trans an;have J:=aB.out.ext (ah.out.trans ao);have v0:=J.cell 0;have v1:=J.cell 1;have bf:=J.cell 2;have bh:=J.cell 3;have v4:=J.cell 4;have aj:=(be.out.ext an).cell 4;have aS:=zk (ah.out.trans ao);clear ao J an;go_wp2_with fail
 refine(Zt A P.length c P aR (ax.out aR (aA.out.trans aS.out)) ay.out az.out).mono ?_;rintro e bn⟨rfl,aT⟩;have bi:=zk (aW.out.trans (aS.out.trans aT));clear aT v0 v1 bf bh v4 aj;go_wp2;go_ret;exact⟨rfl,bi.out⟩
def lawTopSolved_c(S K zj:Int)(A:AD)(n c:Nat)(zc:List Ba)(B:AD)(m d:Nat)(l:List AZ)(u E H J:Int)(w:Aj)(O:Bj S)(T:Bj K)(h:Bi w A n zc)(U:Bx w B m l)(V:∀x∈l,Bj x.st/\Bj x.an/\Bj x.aD)(Z:Bj u)(aa:Bj E)(ab:Bj H):AC 3 #[.agg #[S,K,zj,.slice A n c],.slice B m d,.agg #[u,E,H,J]] w λe w'=>e=.returned true/\Ae w w':=Ah7 Af1 S K zj A n c zc B m d l u E H J w h U O T V Z aa ab
