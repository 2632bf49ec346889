/- KHdrGood -/
import Derived.Test.YtdbgldieilgnmaaGreatDoorK05
set_option linter.all false
set_option maxHeartbeats 8000000
set_option maxRecDepth 100000
namespace Go.Proofs.YtdbgldieilgnmaaGreatDoor
open Tryz
open Go.Proofs.Tryz renaming prog → qp0
open ChangeShapes WideShapes ChangeAt RowKit
theorem nH(l:List UInt8)(k j:Nat)(hj:j<7):(Oc l k).getD j 0=if j<k then(Zr l j).1 else 0:=by
 simp[Oc,List.getD,List.getElem?_range hj]
theorem adD(l:List UInt8)(V:List Int)(h:Oc l (if om l=true then 7 else 5)=V):NQ l=⟨nameOf l,Plain.text (eH l 157 257),V.getD 0 0,V.getD 1 0,V.getD 2 0,if 49<=(fB l).toNat/\(fB l).toNat<=54 then 0 else V.getD 3 0,V.getD 4 0,fB l,
  if bN l=1 then[] else Plain.text (eH l 265 297),if bN l=1 then[] else Plain.text (eH l 297 329),V.getD 5 0,V.getD 6 0,bN l⟩:=by
 subst h;unfold NQ;rw[nH _ _ 0 (by decide),nH _ _ 1 (by decide),nH _ _ 2 (by decide),nH _ _ 3 (by decide),nH _ _ 4 (by decide),nH _ _ 5 (by decide),nH _ _ 6 (by decide)];by_cases d:om l=true
 .simp[d,Zr,fieldAt]
 .simp[d,Zr,fieldAt]
theorem WZ(gh gv:Nat)(hne:gh≠gv)(v0 v1 v2 v4 v5 v6:Int)(w:World)(k:Nat)(v:Value)(h:w.drew.cell? ⟨gv,0,none⟩=some (.int .i64 v0)/\w.drew.cell? ⟨gv,1,none⟩=some (.int .i64 v1)/\w.drew.cell? ⟨gv,2,none⟩=some (.int .i64 v2)/\w.drew.cell? ⟨gv,4,none⟩=some (.int .i64 v4)/\w.drew.cell? ⟨gv,5,none⟩=some (.int .i64 v5)/\w.drew.cell? ⟨gv,6,none⟩=some (.int .i64 v6)):(w.setCell ⟨gh,k,none⟩ v).drew.cell? ⟨gv,0,none⟩=some (.int .i64 v0)/\(w.setCell ⟨gh,k,none⟩ v).drew.cell? ⟨gv,1,none⟩=some (.int .i64 v1)/\(w.setCell ⟨gh,k,none⟩ v).drew.cell? ⟨gv,2,none⟩=some (.int .i64 v2)/\(w.setCell ⟨gh,k,none⟩ v).drew.cell? ⟨gv,4,none⟩=some (.int .i64 v4)/\(w.setCell ⟨gh,k,none⟩ v).drew.cell? ⟨gv,5,none⟩=some (.int .i64 v5)/\(w.setCell ⟨gh,k,none⟩ v).drew.cell? ⟨gv,6,none⟩=some (.int .i64 v6):=by
 have e:∀ j,(w.setCell ⟨gh,k,none⟩ v).drew.cell? ⟨gv,j,none⟩=w.drew.cell? ⟨gv,j,none⟩:=fun j=>World.cell?_setCell_other (w:=w) (v:=v) (a:=⟨gh,k,none⟩) (b:=⟨gv,j,none⟩) (fun h=>hne (congrArg Addr.block h))
 rw[e,e,e,e,e,e];exact h
theorem Ng(l:List UInt8)(hl:l.length=512)(w:World)(ev:Value)(hE:eO w ev)(hz:¬ l=cZ)(hs:Plain.sealed l=true):Calls qp0 113 #[.agg (aL l)] w fun e w'=>e=.returned (Km (Plain.hread l))/\Below w.heap.size w w':=by
 have hr:Plain.hread l=if nK l=false then(Hd.zero,42) else(NQ l,0):=by
  unfold Plain.hread;rw[if_neg hz,if_neg (by rw[hs];decide)]
 generalize hrr:Plain.hread l=r at *
 have Cb:=ah hr;have HH:=ah (H2.lit w l);have HI:=ah (iL l hl);have HD:=ah (mo Hd.zero);have HO:=ah (jP Hd.zero);have HZ:=ah (fun w=>CK l hl w);have HS:=ah (fun w hE=>vE l hl w ev hE);have hd:decide (l=cZ)=false:=uU hz;rw[hd] at HZ;rw[hs] at HS;have HE:=ah hE;have HL:=ah hl;clear hE hr hz hs hd hrr hl;go_enter func113,ntmps113;go_upto_region 1 with(with_reducible refine dO rfl _ _ rfl (aL l) rfl ?_)
 have hR:=HH.out;generalize (w.alloc (.cells (aL l) 70)).alloc (.cells #[.string ⟨#[]⟩,.string ⟨#[]⟩,.int .i64 0,.int .i64 0,.int .i64 0,.int .i64 0,.int .i64 0,.int .u8 0,.string ⟨#[]⟩,.string ⟨#[]⟩,.int .i64 0,.int .i64 0,.int .i64 0] 74)=wa at *
 have HR:=ah hR;clear hR HH;go_upto_region 5 with(first|(with_reducible refine wpList_load_row rfl _ _ rfl w.heap.size rfl 70 (aL l) (0,0) _ HR.out.r0 underlying70 rfl HI.out ?_)|(go_at_call 144;(with_reducible refine(HZ.out _).mono ?_);rintro e w1 ⟨rfl,hb1⟩;have HR1:=ah (HR.out.keep hb1);clear hb1)|(with_reducible refine wpList_load_row rfl _ _ rfl w.heap.size rfl 70 (aL l) (0,0) _ HR1.out.r0 underlying70 rfl HI.out ?_)|(go_at_call 38;(with_reducible refine(HS.out _ (by exact HE.out.below HR1.out.bJ)).mono ?_);rintro e w2 ⟨rfl,hb2⟩;have HR2:=ah (HR1.out.keep hb2);clear hb2))
 have hty:fB l=if l.getD 156 0=0\/l.getD 156 0=55 then 48 else l.getD 156 0:=rfl
 have hx:w2.cell? ⟨w.heap.size,156,none⟩=some (.int .u8 ((l.getD 156 0).toNat:Int)):=by rw[cell_of_row _ _ _ _ _ _ HR2.out.r0,tF _ _ (by rw[HL.out];decide)]
 generalize l.getD 156 0=B at *
 have HTY:=ah hty;clear hty;go_cut [4] (fun s4 wy=>s4=.pointer (some ⟨w2.heap.size,0,none⟩)/\Hid (H3 w l w2.heap.size (hFT (bN l) B) wy))
 case first =>
  as_aux_lemma =>
   have HF:=ah (fun (wx:World)(h:H2 w l wx)=>Yz w.heap.size l wx HL.out h.r0);have hlt:w.heap.size<w2.heap.size:=by have:=HR2.out.lt;omega
   have ahW:=ah (HR2.out.keep ((Below.refl _ _).drew));go_region_with (go_at_call 145;(with_reducible refine(HF.out _ (by first|exact HR2.out.keep ((Below.refl _ _).drew)|exact HR2.out.keep (((Below.refl _ _).alloc (aY _) _).drew))).mono ?_);rintro e w3 ⟨rfl,hw3⟩;obtain rfl:=hw3)
   all_goals go_wp2
   all_goals go_meet
   all_goals exact⟨rfl,ah ⟨HR2.out.keep (((Below.refl _ _).alloc (aY _) _).drew),by have:=HR2.out.lt;omega,heap_alloc_new w2 _⟩⟩
 case rest =>
  obtain⟨rfl,HW⟩:=hcut;generalize wc=wA at *
  clear hx;have hgh:w.heap.size+2<=w2.heap.size:=by have:=HR2.out.lt;omega
  have UN:wA.cell? ⟨w2.heap.size,7,none⟩=some (.int .u8 (B.toNat:Int)):=HW.out.cell 7;have hf7:=HW.out.free 7;clear HZ HS HR HR1 HR2;generalize w2.heap.size=gh at *
  go_upto_region 6 with fail
  go_cut [30] (fun s30 wy=>s30=.bool (decide (B=0\/B=55))/\Hid (wy=wA))
  case first =>
   as_aux_lemma =>
    by_cases e0:B=0
    .subst e0;go_wp2
     go_meet;exact⟨rfl,ah rfl⟩
    .have h0:((B.toNat:Int)==0)=false:=by rw[beq_eq_false_iff_ne];intro h;exact e0 (VL.1 (by simpa using(by omega:B.toNat=0)))
     by_cases e5:B=55
     .subst e5;go_wp2
      go_meet;exact⟨rfl,ah rfl⟩
     .have h5:((B.toNat:Int)==55)=false:=by rw[beq_eq_false_iff_ne];intro h;exact e5 (VL.1 (by simpa using(by omega:B.toNat=55)))
      have hd:decide (B=0\/B=55)=false:=by simp[e0,e5]
      have HDD:=ah hd;clear hd e0 e5;go_wp2
      go_meet;exact⟨by rw[HDD.out],ah rfl⟩
  case rest =>
   obtain⟨rfl,hwc⟩:=hcut;obtain rfl:=hwc.out;go_upto_if 30 with fail;go_cut [5] (fun s5 wy=>Hid (H3 w l gh (hFT (bN l) (fB l)) wy))
   case first =>
    as_aux_lemma =>
     by_cases e0:B=0\/B=55
     .have hd:decide (B=0\/B=55)=true:=uQ e0;have ht:fB l=48:=by rw[HTY.out,if_pos e0]
      rw[hd];have HT:=ah ht;clear hd e0 HTY ht;go_wp2
      go_meet;exact ah (by rw[HT.out];exact HW.out.set 7 _ rfl)
     .have hd:decide (B=0\/B=55)=false:=uU e0;have ht:fB l=B:=by rw[HTY.out,if_neg e0]
      rw[hd];have HT:=ah ht;clear hd e0 HTY ht;go_wp2
      go_meet;exact ah (by rw[HT.out];exact HW.out)
   case rest =>
    have HW2:=hcut;generalize wc=wB at *
    clear HW UN hf7 HTY;have UN:wB.cell? ⟨gh,7,none⟩=some (.int .u8 ((fB l).toNat:Int)):=HW2.out.cell 7;have aef:wB.cell? ⟨gh,12,none⟩=some (.int .i64 (bN l)):=HW2.out.cell 12;go_upto_region 8 with fail
    go_cut [5] (fun s5 wy=>s5=.bool (om l)/\Hid (wy=wB))
    case first =>
     as_aux_lemma =>
      have hdv:om l=decide (bN l≠1/\(fB l=51\/fB l=52)):=rfl;generalize om l=D at *
      generalize bN l=F at *
      generalize fB l=T at *
      by_cases eF:F=1
      .have hF:(F != 1)=false:=Rf eF;have hD:D=false:=by rw[hdv];simp[eF]
       have HDV:=ah hD;clear hdv eF hD;go_wp2
       go_meet;exact⟨by rw[HDV.out],ah rfl⟩
      .have hF:(F != 1)=true:=ab6 eF;by_cases e51:T=51
       .have hD:D=true:=by rw[hdv];simp[eF,e51]
        have HDV:=ah hD;subst e51;clear hdv eF hD;go_wp2
        go_meet;exact⟨by rw[HDV.out],ah rfl⟩
       .have h51:((T.toNat:Int)==51)=false:=by rw[beq_eq_false_iff_ne];intro h;exact e51 (VL.1 (by simpa using(by omega:T.toNat=51)))
        by_cases e52:T=52
        .have hD:D=true:=by rw[hdv];simp[eF,e52]
         have HDV:=ah hD;subst e52;clear hdv eF hD h51 e51;go_wp2
         go_meet;exact⟨by rw[HDV.out],ah rfl⟩
        .have h52:((T.toNat:Int)==52)=false:=by rw[beq_eq_false_iff_ne];intro h;exact e52 (VL.1 (by simpa using(by omega:T.toNat=52)))
         have hD:D=false:=by rw[hdv];simp[e51,e52]
         have HDV:=ah hD;clear hdv eF hD e51 e52;go_wp2
         go_meet;exact⟨by rw[HDV.out],ah rfl⟩
    case rest =>
     obtain⟨rfl,hwc⟩:=hcut;obtain rfl:=hwc.out;clear UN aef;have hv:=(Below.refl wc.heap.size wc).alloc (aY _) (.cells #[.int .i64 0,.int .i64 0,.int .i64 0,.int .i64 0,.int .i64 0,.int .i64 0,.int .i64 0] 130);have h4:H4 w l gh (hFT (bN l) (fB l)) wc.heap.size (Oc l 0) (wc.alloc (.cells #[.int .i64 0,.int .i64 0,.int .i64 0,.int .i64 0,.int .i64 0,.int .i64 0,.int .i64 0] 130)):=⟨HW2.out.keep hv,HW2.out.lt,heap_alloc_new wc _⟩;have UM:=ah h4;clear h4 hv;go_upto_region 10 with fail
     generalize wc.alloc (.cells #[.int .i64 0,.int .i64 0,.int .i64 0,.int .i64 0,.int .i64 0,.int .i64 0,.int .i64 0] 130)=wD at *
     generalize wc.heap.size=gv at *
     go_upto_block 0 with(go_at_call 69;(with_reducible refine(Cx _).mono ?_);rintro e w5 ⟨rfl,hb5⟩;have qZ:=ah (UM.out.keep hb5);clear hb5);have U0:=ah (fun k hk w=>xw k hk w);generalize nW=FA at *
     clear HW2 UM;go_cut [46] (fun s46 wy=>Hid (nK l=true)/\Hid (H4 w l gh (hFT (bN l) (fB l)) gv (Oc l (if om l=true then 7 else 5)) wy))
     case first =>
      have hgd:=KC l;have hbd:=M9 l;generalize om l=D at *
      generalize hFT (bN l) (fB l)=h0 at *
      generalize nK l=NO at *
      have HGD:=ah hgd;have HBD:=ah hbd;clear hgd hbd;go_wp2_with fail
      go_loopw [46] (fun i wr=>∃ k:Nat,k<=7/\i=.int .i64 k/\Hid (∀ j,j<k->wW l j=true)/\Hid (k<=5\/D=true)/\Hid (H4 w l gh h0 gv (Oc l k) wr)) (fun i _=>7-(intOf i).toNat)
      case atStart=>exact⟨0,by decide,rfl,ah (fun j hj=>absurd hj (qbq j)),ah (.inl (by decide)),qZ⟩
      case round =>
       clear qZ;obtain⟨k,hk,rfl,hok,hk5,HW⟩:=hrel;by_cases hlt:k<7
       .have hki:(k:Int)<7:=by omega
        by_cases hbr:5<=k/\D=false
        .obtain⟨hb5,hbD⟩:=hbr;obtain rfl:k=5:=by
          rcases hk5.out with h|h
          .omega
          .rw[hbD] at h;cases h
         subst hbD;have HN:=ah (HGD.out 5 (.inr ⟨rfl,rfl⟩) hok.out);have ag9:Hid (∀ w,(Instr.index 133 (.agg FA) (.int .i64 5)).run qp0 w=.ok (.agg #[.int .i64 329,.int .i64 337,.int .i64 0,.int .i64 9223372036854775807]) w):=U0.out 5 (by decide);have HX:=ah (HW.out.keep ((Below.refl _ _).alloc (aY _) (.cells #[.int .i64 329,.int .i64 337,.int .i64 0,.int .i64 9223372036854775807] 132)));go_wp2_with (refine je (vy:=.agg FA) (vx:=.int .i64 5) rfl 133 (.tmp 45) (.tmp 46) rfl rfl rfl (.agg #[.int .i64 329,.int .i64 337,.int .i64 0,.int .i64 9223372036854775807]) (ag9.out _) ?_)
         go_meet;exact⟨HN,HX⟩
        .have HW1:=U0.out k hlt;have hbd:=qm k hlt;have hoi:=Wm l k;have hvs:=aaO l k hlt;have hbad:=HBD.out k hlt;unfold Zr mD at hoi hvs;unfold Cj at HW1;generalize fieldAt k=f at *
         obtain⟨s,e,lo,hi⟩:=f;simp only at hbd hoi hvs HW1;obtain⟨hse,he,hs5⟩:=hbd;have HFK:Hid (∀ w,(Instr.index 133 (.agg FA) (.int .i64 (k:Int))).run qp0 w=.ok (.agg #[.int .i64 (s:Int),.int .i64 (e:Int),.int .i64 lo,.int .i64 hi]) w):=HW1;clear HW1;have h5c:(k:Int)<5\/((5:Int)<=k/\(!D)=false):=by
          by_cases h:k<5
          .exact .inl (by omega)
          .right
           refine⟨by omega,?_⟩
           cases D with
           | true=>rfl
           | false=>exact absurd ⟨by omega,rfl⟩ hbr
         have h5n:k<5\/D=true:=by
          rcases h5c with h|h
          .left;omega
          .right;simpa using h.2
         have hX:=HW.out.keep ((Below.refl _ _).alloc (aY _) (.cells #[.int .i64 (s:Int),.int .i64 (e:Int),.int .i64 lo,.int .i64 hi] 132));have HP:=ah (hX.three.two.part HL.out s e hse (by omega));have HX:=ah hX;have IJ:=ah (fun (wx:World)(h:Bs wx (some ⟨w.heap.size,s,none⟩) (e-s) (512-s) (eH l s e))(hE:eO wx ev)=>qM _ _ _ (eH l s e) wx ev h (by omega) hE);have hfd:eH l s e=(l.take e).drop s:=rfl;generalize eH l s e=fl at *
         generalize hnn:Plain.number fl=nn at *
         obtain⟨n1,n2⟩:=nn;simp only at hoi hvs;have ahZ:(k:Int)<512:=by omega
         have HVS:=ah hvs;have HOI:=ah hoi;have HBAD:=ah hbad;have HNN:=ah hnn;clear hfd hnn hvs hoi hbad hX hbr;by_cases hgood:n2=0/\lo<=n1/\n1<=hi
         .obtain⟨c1,c2,c3⟩:=hgood;have hok2:∀ j,j<k+1->wW l j=true:=fun j hj=>by
           by_cases e:j=k
           .subst e;exact HOI.out.2 ⟨c1,c2,c3⟩
           .exact hok.out j (by omega)
          have ads:=ah hok2;have d1:(n2 != 0)=false:=Rf c1;have d2:¬ n1<lo:=by omega
          have d3:¬ hi<n1:=by omega
          clear hok2;subst c1
          as_aux_lemma =>
           rcases h5c with h5|⟨h5,hD⟩
           all_goals
            go_upto_region 15 with(first|(refine je (vy:=.agg FA) (vx:=.int .i64 (k:Int)) rfl 133 (.tmp 45) (.tmp 46) rfl rfl rfl (.agg #[.int .i64 (s:Int),.int .i64 (e:Int),.int .i64 lo,.int .i64 hi]) (HFK.out _) ?_)|(with_reducible refine bA rfl _ (.tmp 1) (some (.tmp 58)) (some (.tmp 60)) rfl underlying70 (by kernel_rfl) w.heap.size rfl s e .i64 .i64 rfl rfl hse (by omega) (by omega) ?_)|(go_at_call 72;(refine(IJ.out _ (by exact HP.out) (by exact HE.out.below HX.out.three.two.bJ)).mono ?_);rintro e w7 ⟨rfl,mq⟩;unfold nU;have GY:=ah (HX.out.keep mq);have hrow:=mq.block wr.heap.size (by simp)))
            rw[heap_alloc_new] at hrow;clear mq IJ HP HX HE HFK HNN HOI HBAD;have hc2:w7.cell? ⟨wr.heap.size,2,none⟩=some (.int .i64 lo):=by rw[cell_of_row _ _ _ _ _ _ hrow];rfl
            have hc3:w7.cell? ⟨wr.heap.size,3,none⟩=some (.int .i64 hi):=by rw[cell_of_row _ _ _ _ _ _ hrow];rfl
            have hfv:=GY.out.free k;have hcv:=GY.out.cell k (by rw[QW];exact hlt);have UK:Hid (H4 w l gh h0 gv (Oc l (k+1)) (w7.setCell ⟨gv,k,none⟩ (.int .i64 n1))):=ah (by have h:=GY.out.put k n1;rw[HVS.out] at h;exact h);have h5k:Hid (k+1<=5\/D=true):=ah (by first|exact .inr (by simpa using hD)|(left;omega));clear hrow GY HVS HW;go_wp2
            go_round
            case rel =>
             exact⟨k+1,by omega,by go_num,ads,h5k,UK⟩
            case measure=>simp[intOf];omega
         .skip
          as_aux_lemma =>
           have hno:wW l k=false:=by rw[<-qcg,HOI.out];exact hgood
           have hNO:=HBAD.out h5n hno;have hr:=Cb.out;rw[if_pos hNO] at hr;subst hr;clear hno hNO HNN HOI HBAD HVS hok hk5 HW HGD Cb;have afe:(n2 != 0)=true\/(n2=0/\n1<lo)\/(n2=0/\¬ n1<lo/\hi<n1):=by
            by_cases c1:n2=0
            .by_cases c2:n1<lo
             .exact .inr (.inl ⟨c1,c2⟩)
             .exact .inr (.inr ⟨c1,c2,Int.not_le.1 (fun c3=>hgood ⟨c1,Int.not_lt.1 c2,c3⟩)⟩)
            .exact .inl (ab6 c1)
           clear hgood;rcases h5c with h5|⟨h5,hD⟩
           all_goals
            go_upto_region 15 with(first|(refine je (vy:=.agg FA) (vx:=.int .i64 (k:Int)) rfl 133 (.tmp 45) (.tmp 46) rfl rfl rfl (.agg #[.int .i64 (s:Int),.int .i64 (e:Int),.int .i64 lo,.int .i64 hi]) (HFK.out _) ?_)|(with_reducible refine bA rfl _ (.tmp 1) (some (.tmp 58)) (some (.tmp 60)) rfl underlying70 (by kernel_rfl) w.heap.size rfl s e .i64 .i64 rfl rfl hse (by omega) (by omega) ?_)|(go_at_call 72;(refine(IJ.out _ (by exact HP.out) (by exact HE.out.below HX.out.three.two.bJ)).mono ?_);rintro e w7 ⟨rfl,mq⟩;unfold nU;have GY:=ah (HX.out.keep mq);have hrow:=mq.block wr.heap.size (by simp)))
            rw[heap_alloc_new] at hrow;clear mq IJ HP HX HE HFK;have hc2:w7.cell? ⟨wr.heap.size,2,none⟩=some (.int .i64 lo):=by rw[cell_of_row _ _ _ _ _ _ hrow];rfl
            have hc3:w7.cell? ⟨wr.heap.size,3,none⟩=some (.int .i64 hi):=by rw[cell_of_row _ _ _ _ _ _ hrow];rfl
            clear hrow;rcases afe with d1|⟨rfl,d2⟩|⟨rfl,d2,d3⟩
            all_goals
             go_wp2_with (with_reducible refine wpList_store_row rfl 74 _ _ rfl (w.heap.size+1) rfl (dQ Hd.zero) rfl (dQ Hd.zero) 74 GY.out.three.two.r1 rfl HD.out HO.out ?_)
             exact bodyPost_ret (results_cell_tmp rfl _ _ (w.heap.size+1) 74 (dQ Hd.zero) (0,0) _ _ rfl rfl (setRow_heap _ _ _ _ _ _ GY.out.three.two.r1) underlying74 rfl HD.out) rfl ⟨rfl,Below.setRow GY.out.three.two.bJ (by omega) _⟩
       .obtain rfl:k=7:=by omega
        as_aux_lemma =>
         have hDt:D=true:=by
          rcases hk5.out with h|h
          .omega
          .exact h
         subst hDt;have HN:=ah (HGD.out 7 (.inl rfl) hok.out);have hki:¬ (7:Int)<7:=by omega
         go_wp2
         go_meet;exact⟨HN,HW⟩
     case rest =>
      obtain⟨VZ,HW⟩:=hcut;have hr:=Cb.out;rw[if_neg (by rw[VZ.out];decide)] at hr;rw[adD l _ rfl] at hr;clear Cb VZ U0;generalize wc=wE at *
      generalize hV:Oc l (if om l=true then 7 else 5)=V at *
      have hVl:V.length=7:=by rw[<-hV];exact QW _ _
      have HV:=ah hV;have OI:=ah hVl;have Cb:=ah hr;clear hV hVl hr;have hc0:wE.cell? ⟨gv,0,none⟩=some (.int .i64 (V.getD 0 0)):=HW.out.cell 0 (by rw[OI.out];decide);have hc1:wE.cell? ⟨gv,1,none⟩=some (.int .i64 (V.getD 1 0)):=HW.out.cell 1 (by rw[OI.out];decide);have hc2:wE.cell? ⟨gv,2,none⟩=some (.int .i64 (V.getD 2 0)):=HW.out.cell 2 (by rw[OI.out];decide);have hc4:wE.cell? ⟨gv,4,none⟩=some (.int .i64 (V.getD 4 0)):=HW.out.cell 4 (by rw[OI.out];decide);have hc5:wE.cell? ⟨gv,5,none⟩=some (.int .i64 (V.getD 5 0)):=HW.out.cell 5 (by rw[OI.out];decide);have hc6:wE.cell? ⟨gv,6,none⟩=some (.int .i64 (V.getD 6 0)):=HW.out.cell 6 (by rw[OI.out];decide);have hne:gh≠gv:=by have:=HW.out.ge;omega
      have hne2:gv≠gh:=hne.symm;have hf2:=HW.out.three.free 2;have hf3:=HW.out.three.free 3;have hf4:=HW.out.three.free 4;have hf6:=HW.out.three.free 6;have RJ:=HW.out.three.free 10;have aho:=HW.out.three.free 11;have hd2:wE.cell? ⟨gh,2,none⟩=some (.int .i64 0):=HW.out.three.cell 2;have hd3:wE.cell? ⟨gh,3,none⟩=some (.int .i64 0):=HW.out.three.cell 3;have hd4:wE.cell? ⟨gh,4,none⟩=some (.int .i64 0):=HW.out.three.cell 4;have hd6:wE.cell? ⟨gh,6,none⟩=some (.int .i64 0):=HW.out.three.cell 6;have ahp:wE.cell? ⟨gh,10,none⟩=some (.int .i64 0):=HW.out.three.cell 10;have ahn:wE.cell? ⟨gh,11,none⟩=some (.int .i64 0):=HW.out.three.cell 11;generalize V.getD 0 0=v0 at *
      generalize V.getD 1 0=v1 at *
      generalize V.getD 2 0=v2 at *
      generalize V.getD 4 0=v4 at *
      generalize V.getD 5 0=v5 at *
      generalize V.getD 6 0=v6 at *
      go_upto_region 19 with fail
      go_region_held3 (fun w'=>w'.cell? ⟨gv,0,none⟩=some (.int .i64 v0)/\w'.cell? ⟨gv,1,none⟩=some (.int .i64 v1)/\w'.cell? ⟨gv,2,none⟩=some (.int .i64 v2)/\w'.cell? ⟨gv,4,none⟩=some (.int .i64 v4)/\w'.cell? ⟨gv,5,none⟩=some (.int .i64 v5)/\w'.cell? ⟨gv,6,none⟩=some (.int .i64 v6)) (first|(with_reducible refine WZ gh gv hne v0 v1 v2 v4 v5 v6 _ _ _ ?_;with_reducible assumption)|exact⟨hc0,hc1,hc2,hc4,hc5,hc6⟩) (first|fail)
      have hX:H4 w l gh ⟨[],[],v0,v1,v2,0,v4,fB l,[],[],v5,v6,bN l⟩ gv V ((((((wE.setCell ⟨gh,2,none⟩ (.int .i64 v0)).setCell ⟨gh,3,none⟩ (.int .i64 v1)).setCell ⟨gh,4,none⟩ (.int .i64 v2)).setCell ⟨gh,6,none⟩ (.int .i64 v4)).setCell ⟨gh,10,none⟩ (.int .i64 v5)).setCell ⟨gh,11,none⟩ (.int .i64 v6)).drew :=((((((HW.out.set (h':=⟨[],[],v0,0,0,0,0,fB l,[],[],0,0,bN l⟩) 2 (.int .i64 v0) rfl).set (h':=⟨[],[],v0,v1,0,0,0,fB l,[],[],0,0,bN l⟩) 3 (.int .i64 v1) rfl).set (h':=⟨[],[],v0,v1,v2,0,0,fB l,[],[],0,0,bN l⟩) 4 (.int .i64 v2) rfl).set (h':=⟨[],[],v0,v1,v2,0,v4,fB l,[],[],0,0,bN l⟩) 6 (.int .i64 v4) rfl).set (h':=⟨[],[],v0,v1,v2,0,v4,fB l,[],[],v5,0,bN l⟩) 10 (.int .i64 v5) rfl).set (h':=⟨[],[],v0,v1,v2,0,v4,fB l,[],[],v5,v6,bN l⟩) 11 (.int .i64 v6) rfl).keep ((Below.refl _ _).drew)
      generalize ((((((wE.setCell ⟨gh,2,none⟩ (.int .i64 v0)).setCell ⟨gh,3,none⟩ (.int .i64 v1)).setCell ⟨gh,4,none⟩ (.int .i64 v2)).setCell ⟨gh,6,none⟩ (.int .i64 v4)).setCell ⟨gh,10,none⟩ (.int .i64 v5)).setCell ⟨gh,11,none⟩ (.int .i64 v6)).drew=wF at *
      have HX:=ah hX;clear hX hc0 hc1 hc2 hc4 hc5 hc6 hf2 hf3 hf4 hf6 RJ aho hd2 hd3 hd4 hd6 ahp ahn hne hne2 HW;have UN:wF.cell? ⟨gh,7,none⟩=some (.int .u8 ((fB l).toNat:Int)):=HX.out.three.cell 7;go_upto_region 20 with fail
      go_cut [109] (fun agJ wy=>agJ=.bool (decide ((fB l).toNat<49\/54<(fB l).toNat))/\Hid (wy=wF))
      case first =>
       as_aux_lemma =>
        clear HX;generalize fB l=T at *
        by_cases e1:T.toNat<49
        .have h1:(T.toNat:Int)<49:=by omega
         have hd:decide (T.toNat<49\/54<T.toNat)=true:=uQ (.inl e1);have HDD:=ah hd;clear hd e1;go_wp2
         go_meet;exact⟨by rw[HDD.out],ah rfl⟩
        .have h1:¬ (T.toNat:Int)<49:=by omega
         by_cases e2:54<T.toNat
         .have h2:(54:Int)<(T.toNat:Int):=by omega
          have hd:decide (T.toNat<49\/54<T.toNat)=true:=uQ (.inr e2);have HDD:=ah hd;clear hd e1 e2;go_wp2
          go_meet;exact⟨by rw[HDD.out],ah rfl⟩
         .have h2:¬ (54:Int)<(T.toNat:Int):=by omega
          have hd:decide (T.toNat<49\/54<T.toNat)=false:=uU (by omega);have HDD:=ah hd;clear hd e1 e2;go_wp2
          go_meet;exact⟨by rw[HDD.out],ah rfl⟩
      case rest =>
       obtain⟨rfl,hwc⟩:=hcut;obtain rfl:=hwc.out;clear UN;have hc3:wc.cell? ⟨gv,3,none⟩=some (.int .i64 (V.getD 3 0)):=HX.out.cell 3 (by rw[OI.out];decide);have hc5:wc.cell? ⟨gh,5,none⟩=some (.int .i64 0):=HX.out.three.cell 5;have hf5:=HX.out.three.free 5;generalize V.getD 3 0=v3 at *
       obtain⟨Z,hZ⟩:∃ Z:Int,Z=if 49<=(fB l).toNat/\(fB l).toNat<=54 then 0 else v3:=⟨_,rfl⟩
       rw[<-hZ] at Cb;have HZZ:=ah hZ;clear hZ;go_upto_if 109 with fail;go_cut [] (fun wy=>Hid (H4 w l gh ⟨[],[],v0,v1,v2,Z,v4,fB l,[],[],v5,v6,bN l⟩ gv V wy))
       case first =>
        as_aux_lemma =>
         by_cases e:49<=(fB l).toNat/\(fB l).toNat<=54
         .have hd:decide ((fB l).toNat<49\/54<(fB l).toNat)=false:=uU (by omega);have hT:Z=0:=by rw[HZZ.out,if_pos e]
          have HT:=ah hT;rw[hd];clear hd e hT HZZ;go_wp2
          go_meet;exact ah (by rw[HT.out];exact HX.out)
         .have hd:decide ((fB l).toNat<49\/54<(fB l).toNat)=true:=uQ (by omega);have hT:Z=v3:=by rw[HZZ.out,if_neg e]
          have HT:=ah hT;rw[hd];clear hd e hT HZZ;go_wp2
          go_meet;exact ah (by rw[HT.out];exact HX.out.set 5 _ rfl)
       case rest =>
        have HY:=hcut;generalize wc=wG at *
        clear HX hc3 hc5 hf5 HZZ;go_upto_region 22 with fail
        go_cut [] (fun wy=>Hid (H4 w l gh ⟨Plain.text (eH l 0 100),Plain.text (eH l 157 257),v0,v1,v2,Z,v4,fB l,[],[],v5,v6,bN l⟩ gv V wy))
        case first =>
         as_aux_lemma =>
          have h0:=HY.out.keep ((Below.refl _ _).drew);have hx0:=h0.three.cell 0;have hx1:=h0.three.cell 1;have hy0:(wG.setCell ⟨gh,0,none⟩ (.string ⟨(Plain.text (eH l 0 100)).toArray⟩)).drew.cell? ⟨gh,1,none⟩=some (.string ⟨#[]⟩):=by
           have h1:=(HY.out.set (h':=⟨Plain.text (eH l 0 100),[],v0,v1,v2,Z,v4,fB l,[],[],v5,v6,bN l⟩) 0 (.string ⟨(Plain.text (eH l 0 100)).toArray⟩) rfl).keep ((Below.refl _ _).drew);exact h1.three.cell 1
          have hf0:=HY.out.three.free 0;have hf1:=HY.out.three.free 1;have HT1:=ah (pO _ _ _ _ _ (h0.three.two.part HL.out 0 100 (by decide) (by decide)));have HT2:=ah (pO _ _ _ _ _ (h0.three.two.part HL.out 157 257 (by decide) (by decide)));have hs1:=fun wx=>bY (P:=qp0) 70 underlying70 (by kernel_rfl) w.heap.size none (some 100) 0 100 rfl rfl (by decide) (by decide) (by decide) wx
          have hs2:=fun wx=>bY (P:=qp0) 70 underlying70 (by kernel_rfl) w.heap.size (some 157) (some 257) 157 257 rfl rfl (by decide) (by decide) (by decide) wx
          simp only[Option.map] at hs1 hs2;have HZ:=ah (((HY.out.set (h':=⟨Plain.text (eH l 0 100),[],v0,v1,v2,Z,v4,fB l,[],[],v5,v6,bN l⟩) 0 (.string ⟨(Plain.text (eH l 0 100)).toArray⟩) rfl).set (h':=⟨Plain.text (eH l 0 100),Plain.text (eH l 157 257),v0,v1,v2,Z,v4,fB l,[],[],v5,v6,bN l⟩) 1 (.string ⟨(Plain.text (eH l 157 257)).toArray⟩) rfl).keep ((Below.refl _ _).drew));clear h0;go_region_with (go_at_call 146;first|((with_reducible refine HT1.out.mono ?_);rintro e w7 ⟨rfl,hw7⟩;obtain rfl:=hw7)|((with_reducible refine HT2.out.mono ?_);rintro e w7 ⟨rfl,hw7⟩;obtain rfl:=hw7))
          all_goals go_wp2
          all_goals go_meet
          all_goals exact HZ
        case rest =>
         have HK:=hcut;generalize wc=wH at *
         clear HY;have HTP:=ah (fun (wx:World)(h:H2 w l wx)=>pO _ _ _ _ wx (h.part HL.out 345 500 (by decide) (by decide)));have HTU:=ah (fun (wx:World)(h:H2 w l wx)=>pO _ _ _ _ wx (h.part HL.out 265 297 (by decide) (by decide)));have HTG:=ah (fun (wx:World)(h:H2 w l wx)=>pO _ _ _ _ wx (h.part HL.out 297 329 (by decide) (by decide)));have hpl:(Plain.text (eH l 345 500)).length<=155:=by have:=Plain.sU (eH l 345 500);rw[tQ _ _ _ (by rw[HL.out];decide)] at this;omega
         have htl:(Plain.text (eH l 0 100)).length<=100:=by have:=Plain.sU (eH l 0 100);rw[tQ _ _ _ (by rw[HL.out];decide)] at this;omega
         have hnm:nameOf l=if bN l=2/\Plain.text (eH l 345 500)≠[] then Plain.text (eH l 345 500)++47::Plain.text (eH l 0 100) else Plain.text (eH l 0 100):=rfl
         obtain⟨U,hU⟩:∃ U:List UInt8,U=if bN l=1 then[] else Plain.text (eH l 265 297):=⟨_,rfl⟩
         obtain⟨G,hG⟩:∃ G:List UInt8,G=if bN l=1 then[] else Plain.text (eH l 297 329):=⟨_,rfl⟩
         rw[<-hU,<-hG] at Cb;have hform:bN l=2\/bN l=3\/bN l=1:=by
          unfold bN;by_cases a:eH l 257 265=dB
          .rw[if_pos a];simp
          .rw[if_neg a];by_cases b:eH l 257 265=Hr
           .rw[if_pos b];simp
           .rw[if_neg b];simp
         generalize nameOf l=N at *
         generalize Plain.text (eH l 345 500)=P at *
         generalize Plain.text (eH l 0 100)=T0 at *
         generalize Plain.text (eH l 157 257)=T1 at *
         generalize Plain.text (eH l 265 297)=TU at *
         generalize Plain.text (eH l 297 329)=TG at *
         generalize bN l=F at *
         generalize fB l=TY at *
         have HNM:=ah hnm;have K6:=ah hform;have HPL:=ah hpl;have HTL:=ah htl;have HUU:=ah hU;have HGG:=ah hG;have aef:wH.cell? ⟨gh,12,none⟩=some (.int .i64 F):=HK.out.three.cell 12;clear hnm hform hpl htl hU hG;go_upto_block 2 with fail;clear aef;go_cut [] (fun wy=>Hid (H4 w l gh ⟨N,T1,v0,v1,v2,Z,v4,TY,U,G,v5,v6,F⟩ gv V wy))
         case first =>
          as_aux_lemma =>
           rcases K6.out with e|e|e
           .subst e;have hU:U=TU:=by rw[HUU.out,if_neg (by decide)]
            have hG:G=TG:=by rw[HGG.out,if_neg (by decide)]
            have HU:=ah hU;have HG:=ah hG;clear hU hG HUU HGG K6;have HD1:=ah HK.out.three.two;by_cases p0:P=[]
            .subst p0;have hN:N=T0:=by rw[HNM.out,if_neg (by simp)]
             subst hN;clear HNM HPL HTL;go_upto_region 29 with(first|(with_reducible refine bA rfl _ _ _ _ rfl underlying70 (by kernel_rfl) w.heap.size rfl 345 500 .i64 .i64 rfl rfl (by decide) (by decide) (by decide) ?_)|(go_at_call 146;(with_reducible refine(HTP.out _ HD1.out).mono ?_);rintro e w7 ⟨rfl,hw7⟩;obtain rfl:=hw7))
             have h0:=HK.out.keep ((Below.refl _ _).drew);have hx8:=h0.three.cell 8;have RN:=h0.three.cell 9;have hy9:(wH.setCell ⟨gh,8,none⟩ (.string ⟨TU.toArray⟩)).drew.cell? ⟨gh,9,none⟩=some (.string ⟨#[]⟩):=((HK.out.set (h':=⟨N,T1,v0,v1,v2,Z,v4,TY,TU,[],v5,v6,2⟩) 8 (.string ⟨TU.toArray⟩) rfl).keep ((Below.refl _ _).drew)).three.cell 9;have hf8:=HK.out.three.free 8;have hf9:=HK.out.three.free 9;have HD2:=ah h0.three.two;have HZ:=ah (((HK.out.set (h':=⟨N,T1,v0,v1,v2,Z,v4,TY,TU,[],v5,v6,2⟩) 8 (.string ⟨TU.toArray⟩) rfl).set (h':=⟨N,T1,v0,v1,v2,Z,v4,TY,TU,TG,v5,v6,2⟩) 9 (.string ⟨TG.toArray⟩) rfl).keep ((Below.refl _ _).drew));have hs1:=fun wx=>bY (P:=qp0) 70 underlying70 (by kernel_rfl) w.heap.size (some 265) (some 297) 265 297 rfl rfl (by decide) (by decide) (by decide) wx
             have hs2:=fun wx=>bY (P:=qp0) 70 underlying70 (by kernel_rfl) w.heap.size (some 297) (some 329) 297 329 rfl rfl (by decide) (by decide) (by decide) wx
             simp only[Option.map] at hs1 hs2;clear h0;go_region_with (go_at_call 146;first|((with_reducible refine(HTU.out _ HD2.out).mono ?_);rintro e w7 ⟨rfl,hw7⟩;obtain rfl:=hw7)|((with_reducible refine(HTG.out _ HD2.out).mono ?_);rintro e w7 ⟨rfl,hw7⟩;obtain rfl:=hw7))
             all_goals go_wp2
             all_goals go_meet
             all_goals (have hU2:=HU.out;have hG2:=HG.out;rw[hU2,hG2];exact HZ)
            .have hN:N=P++47::T0:=by rw[HNM.out,if_pos ⟨rfl,p0⟩]
             have p0b:P.isEmpty=false:=by simpa using p0
             have hb1:¬ 9223372036854775807<P.length+1:=by have:=HPL.out;omega
             have hb2:¬ 9223372036854775807<P.length+1+T0.length:=by have:=HPL.out;have:=HTL.out;omega
             have agM:(⟨P.toArray⟩:ByteArray)++⟨#[47]⟩++⟨T0.toArray⟩=⟨N.toArray⟩:=by
              have e:(⟨#[47]⟩:ByteArray)=⟨([47]:List UInt8).toArray⟩:=rfl;rw[e,ByteArray.mk_append_mk,ByteArray.mk_append_mk,hN];congr 1;simp
             have hx0:wH.cell? ⟨gh,0,none⟩=some (.string ⟨T0.toArray⟩):=HK.out.three.cell 0;have hf0:=HK.out.three.free 0;have Ta:=ah (HK.out.set (h':=⟨N,T1,v0,v1,v2,Z,v4,TY,[],[],v5,v6,2⟩) 0 (.string ⟨N.toArray⟩) rfl);clear HNM HPL HTL p0 hN;go_upto_region 29 with(first|(with_reducible refine bA rfl _ _ _ _ rfl underlying70 (by kernel_rfl) w.heap.size rfl 345 500 .i64 .i64 rfl rfl (by decide) (by decide) (by decide) ?_)|(go_at_call 146;(with_reducible refine(HTP.out _ HD1.out).mono ?_);rintro e w7 ⟨rfl,hw7⟩;obtain rfl:=hw7))
             generalize wH.setCell ⟨gh,0,none⟩ (.string ⟨N.toArray⟩)=wX at *
             clear hx0 hf0 HK HD1 agM hb1 hb2;have h0:=Ta.out.keep ((Below.refl _ _).drew);have hx8:=h0.three.cell 8;have RN:=h0.three.cell 9;have hy9:(wX.setCell ⟨gh,8,none⟩ (.string ⟨TU.toArray⟩)).drew.cell? ⟨gh,9,none⟩=some (.string ⟨#[]⟩):=((Ta.out.set (h':=⟨N,T1,v0,v1,v2,Z,v4,TY,TU,[],v5,v6,2⟩) 8 (.string ⟨TU.toArray⟩) rfl).keep ((Below.refl _ _).drew)).three.cell 9;have hf8:=Ta.out.three.free 8;have hf9:=Ta.out.three.free 9;have HD2:=ah h0.three.two;have HZ:=ah (((Ta.out.set (h':=⟨N,T1,v0,v1,v2,Z,v4,TY,TU,[],v5,v6,2⟩) 8 (.string ⟨TU.toArray⟩) rfl).set (h':=⟨N,T1,v0,v1,v2,Z,v4,TY,TU,TG,v5,v6,2⟩) 9 (.string ⟨TG.toArray⟩) rfl).keep ((Below.refl _ _).drew));have hs1:=fun wx=>bY (P:=qp0) 70 underlying70 (by kernel_rfl) w.heap.size (some 265) (some 297) 265 297 rfl rfl (by decide) (by decide) (by decide) wx
             have hs2:=fun wx=>bY (P:=qp0) 70 underlying70 (by kernel_rfl) w.heap.size (some 297) (some 329) 297 329 rfl rfl (by decide) (by decide) (by decide) wx
             simp only[Option.map] at hs1 hs2;clear h0;go_region_with (go_at_call 146;first|((with_reducible refine(HTU.out _ HD2.out).mono ?_);rintro e w7 ⟨rfl,hw7⟩;obtain rfl:=hw7)|((with_reducible refine(HTG.out _ HD2.out).mono ?_);rintro e w7 ⟨rfl,hw7⟩;obtain rfl:=hw7))
             all_goals go_wp2
             all_goals go_meet
             all_goals (have hU2:=HU.out;have hG2:=HG.out;rw[hU2,hG2];exact HZ)
           .subst e;have hU:U=TU:=by rw[HUU.out,if_neg (by decide)]
            have hG:G=TG:=by rw[HGG.out,if_neg (by decide)]
            have HU:=ah hU;have HG:=ah hG;have hN:N=T0:=by rw[HNM.out,if_neg (by rintro⟨a,_⟩;cases a)]
            subst hN;clear hU hG HUU HGG K6 HNM HPL HTL;go_wp2
            have h0:=HK.out.keep ((Below.refl _ _).drew);have hx8:=h0.three.cell 8;have RN:=h0.three.cell 9;have hy9:(wH.setCell ⟨gh,8,none⟩ (.string ⟨TU.toArray⟩)).drew.cell? ⟨gh,9,none⟩=some (.string ⟨#[]⟩):=((HK.out.set (h':=⟨N,T1,v0,v1,v2,Z,v4,TY,TU,[],v5,v6,3⟩) 8 (.string ⟨TU.toArray⟩) rfl).keep ((Below.refl _ _).drew)).three.cell 9;have hf8:=HK.out.three.free 8;have hf9:=HK.out.three.free 9;have HD2:=ah h0.three.two;have HZ:=ah (((HK.out.set (h':=⟨N,T1,v0,v1,v2,Z,v4,TY,TU,[],v5,v6,3⟩) 8 (.string ⟨TU.toArray⟩) rfl).set (h':=⟨N,T1,v0,v1,v2,Z,v4,TY,TU,TG,v5,v6,3⟩) 9 (.string ⟨TG.toArray⟩) rfl).keep ((Below.refl _ _).drew));have hs1:=fun wx=>bY (P:=qp0) 70 underlying70 (by kernel_rfl) w.heap.size (some 265) (some 297) 265 297 rfl rfl (by decide) (by decide) (by decide) wx
            have hs2:=fun wx=>bY (P:=qp0) 70 underlying70 (by kernel_rfl) w.heap.size (some 297) (some 329) 297 329 rfl rfl (by decide) (by decide) (by decide) wx
            simp only[Option.map] at hs1 hs2;clear h0;go_region_with (go_at_call 146;first|((with_reducible refine(HTU.out _ HD2.out).mono ?_);rintro e w7 ⟨rfl,hw7⟩;obtain rfl:=hw7)|((with_reducible refine(HTG.out _ HD2.out).mono ?_);rintro e w7 ⟨rfl,hw7⟩;obtain rfl:=hw7))
            all_goals go_wp2
            all_goals go_meet
            all_goals (have hU2:=HU.out;have hG2:=HG.out;rw[hU2,hG2];exact HZ)
           .subst e;have hU:U=[]:=by rw[HUU.out,if_pos rfl]
            have hG:G=[]:=by rw[HGG.out,if_pos rfl]
            have hN:N=T0:=by rw[HNM.out,if_neg (by rintro⟨a,_⟩;cases a)]
            subst hN hU hG;clear HUU HGG K6 HNM HPL HTL;go_wp2
            go_meet;exact HK
         case rest =>
          have HF:=hcut;generalize wc=wZ at *
          clear HK HTP HTU HTG HNM HPL HTL HUU HGG K6;have HIH:=ah (mo ⟨N,T1,v0,v1,v2,Z,v4,TY,U,G,v5,v6,F⟩);have HOH:=ah (jP ⟨N,T1,v0,v1,v2,Z,v4,TY,U,G,v5,v6,F⟩);go_wp2_with (first|(with_reducible first|refine wpList_load_row rfl _ _ rfl gh rfl 74 (dQ ⟨N,T1,v0,v1,v2,Z,v4,TY,U,G,v5,v6,F⟩) (0,0) _ HF.out.three.rh underlying74 rfl HIH.out ?_|refine wpList_store_row rfl 74 _ _ rfl (w.heap.size+1) rfl (dQ ⟨N,T1,v0,v1,v2,Z,v4,TY,U,G,v5,v6,F⟩) rfl (dQ Hd.zero) 74 HF.out.three.two.r1 rfl HIH.out HOH.out ?_))
          exact bodyPost_ret (results_cell_tmp rfl _ _ (w.heap.size+1) 74 (dQ ⟨N,T1,v0,v1,v2,Z,v4,TY,U,G,v5,v6,F⟩) (0,0) _ _ rfl rfl (setRow_heap _ _ _ _ _ _ HF.out.three.two.r1) underlying74 rfl HIH.out) rfl ⟨by rw[Cb.out];rfl,Below.setRow HF.out.three.two.bJ (by omega) _⟩
