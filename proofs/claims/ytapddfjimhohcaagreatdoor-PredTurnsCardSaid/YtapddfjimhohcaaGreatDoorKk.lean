/- The laws of sides: moved and stretched; mixes. -/
import Derived.Test.YtapddfjimhohcaaGreatDoorKj
import Derived.Test.YtapddfjimhohcaaGreatDoorB3
namespace Go.Proofs.YtapddfjimhohcaaGreatDoor.AM
set_option linter.all false
set_option autoImplicit true
set_option relaxedAutoImplicit true
open Go Go.Proofs
set_option maxRecDepth 100000
set_option maxHeartbeats 16000000
set_option linter.unusedSimpArgs false
variable {P:Program}
theorem len3 {x y z:ByteArray} (hx:x.size≤maxS) (hy:y.size≤maxS) (hz:z.size≤maxS):(bl x).length≤140737488355328∧(bl y).length≤140737488355328∧(bl z).length≤140737488355328:=⟨len_s hx,len_s hy,len_s hz⟩
theorem st3 (v a:V3):vadq (vscq ((3:Int):Rat) a) v=vad (vsc 3 a) v:=by rw [vadq_vad,vscq_vsc]; rfl
theorem wIn_st (v p:V3) (l:List V3):wIn (vad (vsc 3 p) v) (l.map fun a=>vad (vsc 3 a) v)=wIn p l:=wIn_map (by decide +kernel) v p l
theorem D2_st (v a b c d:V3):cmpQ (D2 (vad (vsc 3 a) v) (vad (vsc 3 b) v) (vad (vsc 3 c) v) (vad (vsc 3 d) v)) 0=cmpQ (D2 a b c d) 0:=by rw [D2_map]; exact cmpQ_pos (by decide +kernel)
theorem crB_st (v a b c d:V3):crB (vad (vsc 3 a) v) (vad (vsc 3 b) v) (vad (vsc 3 c) v) (vad (vsc 3 d) v)=crB a b c d:=by rw [Bool.eq_iff_iff,crB_iff,crB_iff]; exact crE_map (by decide +kernel) v a b c d
theorem same_o4 (b c d e:V3):same [e,b,d,c] [b,c,d,e]:=fun x=>by simp only [List.mem_cons,List.not_mem_nil,or_false]; constructor<;>(rintro (h|h|h|h)<;>simp [h])
theorem same_o3 (b c d:V3):same [d,b,c] [b,c,d]∧same [c,b,d] [b,c,d]:=⟨fun x=>by simp only [List.mem_cons,List.not_mem_nil,or_false]; constructor<;>(rintro (h|h|h)<;>simp [h]),fun x=>by simp only [List.mem_cons,List.not_mem_nil,or_false]; constructor<;>(rintro (h|h|h)<;>simp [h])⟩
theorem same_d2 (b c:V3):same [b,c,c] [b,c]:=fun x=>by simp
theorem PredTurns_spec (hP:PrgOk P) (L:List ByteArray) (hL:L.length=15) (hs:∀ s ∈ L,s.size≤maxS) (x y z:ByteArray) (hx:x.size≤maxS) (hy:y.size≤maxS) (hz:z.size≤maxS):CSpec P 9 [.agg (L.map .str),.agg [.str x,.str y,.str z]] (.bool true):=by
 obtain ⟨s0,s1,s2,s3,s4,s5,s6,s7,s8,s9,s10,s11,s12,s13,s14,rfl,hl⟩:=fifteen hL hs
 have HE:=Ku1_all hP TF hP.tF
 simp only [List.map_cons,List.map_nil]
 have fa:=pt0_fV s0 s1 s2
 obtain ⟨a,ha⟩:∃ x,pt0 s0 s1 s2=x:=⟨_,rfl⟩
 rw [ha] at fa
 have fb:=pt1_fV s0 s1 s2 s3 s4 s5
 obtain ⟨b,hb⟩:∃ x,pt1 s0 s1 s2 s3 s4 s5=x:=⟨_,rfl⟩
 rw [hb] at fb
 have fc:=pt2_fV s0 s1 s2 s3 s4 s5 s6 s7 s8
 obtain ⟨c,hc⟩:∃ x,pt2 s0 s1 s2 s3 s4 s5 s6 s7 s8=x:=⟨_,rfl⟩
 rw [hc] at fc
 have fd:=pt3_fV s0 s1 s2 s3 s4 s5 s6 s7 s8 s9 s10 s11
 obtain ⟨d,hd⟩:∃ x,pt3 s0 s1 s2 s3 s4 s5 s6 s7 s8 s9 s10 s11=x:=⟨_,rfl⟩
 rw [hd] at fd
 have fe:=pt4_fV s0 s1 s2 s3 s4 s5 s6 s7 s8 s9 s10 s11 s12 s13 s14
 obtain ⟨e,he⟩:∃ x,pt4 s0 s1 s2 s3 s4 s5 s6 s7 s8 s9 s10 s11 s12 s13 s14=x:=⟨_,rfl⟩
 rw [he] at fe
 obtain ⟨ok,hok⟩:∃ x,ok5 s0 s1 s2 s3 s4 s5 s6 s7 s8 s9 s10 s11 s12 s13 s14=x:=⟨_,rfl⟩
 have hn:=(⟨ha,hb,hc,hd,he,hok⟩:_∧_∧_∧_∧_∧_)
 have B:=(⟨i40 fa (by decide),i40 fb (by decide),i40 fc (by decide),i40 fd (by decide),i40 fe (by decide),i16 fa (by decide),i16 fb (by decide),i16 fc (by decide),i16 fd (by decide),i16 fe (by decide),i52 fa (by decide),i52 fb (by decide),i52 fc (by decide),i52 fd (by decide),i52 fe (by decide),bf fa (by decide),bf fb (by decide),bf fc (by decide),bf fd (by decide),bf fe (by decide)⟩:_∧_∧_∧_∧_∧_∧_∧_∧_∧_∧_∧_∧_∧_∧_∧_∧_∧_∧_∧_)
 have hl3:=len3 hx hy hz
 have fv:=ptV_fl x y z
 obtain ⟨v,hv⟩:∃ w,ptV x y z=w:=⟨_,rfl⟩
 rw [hv] at fv
 obtain ⟨ok2,hok2⟩:∃ w,okM x y z=w:=⟨_,rfl⟩
 refine CSpec_go (E:=⟨TF,Ku1⟩) (fn9 hP) HE hP.mix ?_
 cases ok
 case false =>
  simp only [go_sem,hl,hl3,hn,hv,hok2]
  exact .refl _
 cases ok2
 case false =>
  simp only [go_sem,hl,hl3,hn,hv,hok2]
  exact .refl _
 obtain ⟨ga,hga⟩:∃ zz,vscq ((3:Int):Rat) a=zz:=⟨_,rfl⟩
 have fga:=vscq_fV (fl_i64 (n:=3) (by decide) (by decide)) fa
 rw [hga] at fga
 obtain ⟨a1,ha1⟩:∃ zz,vadq ga v=zz:=⟨_,rfl⟩
 have fa1:=vadq_fV fga fv
 rw [ha1] at fa1
 have ea:a1=vad (vsc 3 a) v:=by rw [← ha1,← hga,st3]
 obtain ⟨gb,hgb⟩:∃ zz,vscq ((3:Int):Rat) b=zz:=⟨_,rfl⟩
 have fgb:=vscq_fV (fl_i64 (n:=3) (by decide) (by decide)) fb
 rw [hgb] at fgb
 obtain ⟨b1,hb1⟩:∃ zz,vadq gb v=zz:=⟨_,rfl⟩
 have fb1:=vadq_fV fgb fv
 rw [hb1] at fb1
 have eb:b1=vad (vsc 3 b) v:=by rw [← hb1,← hgb,st3]
 obtain ⟨gc,hgc⟩:∃ zz,vscq ((3:Int):Rat) c=zz:=⟨_,rfl⟩
 have fgc:=vscq_fV (fl_i64 (n:=3) (by decide) (by decide)) fc
 rw [hgc] at fgc
 obtain ⟨c1,hc1⟩:∃ zz,vadq gc v=zz:=⟨_,rfl⟩
 have fc1:=vadq_fV fgc fv
 rw [hc1] at fc1
 have ec:c1=vad (vsc 3 c) v:=by rw [← hc1,← hgc,st3]
 obtain ⟨gd,hgd⟩:∃ zz,vscq ((3:Int):Rat) d=zz:=⟨_,rfl⟩
 have fgd:=vscq_fV (fl_i64 (n:=3) (by decide) (by decide)) fd
 rw [hgd] at fgd
 obtain ⟨d1,hd1⟩:∃ zz,vadq gd v=zz:=⟨_,rfl⟩
 have fd1:=vadq_fV fgd fv
 rw [hd1] at fd1
 have ed:d1=vad (vsc 3 d) v:=by rw [← hd1,← hgd,st3]
 obtain ⟨ge,hge⟩:∃ zz,vscq ((3:Int):Rat) e=zz:=⟨_,rfl⟩
 have fge:=vscq_fV (fl_i64 (n:=3) (by decide) (by decide)) fe
 rw [hge] at fge
 obtain ⟨e1,he1⟩:∃ zz,vadq ge v=zz:=⟨_,rfl⟩
 have fe1:=vadq_fV fge fv
 rw [he1] at fe1
 have ee:e1=vad (vsc 3 e) v:=by rw [← he1,← hge,st3]
 obtain ⟨n,kn⟩:∃ n,cmpQ (D2 a b c d) 0=n:=⟨_,rfl⟩
 obtain ⟨w,kw⟩:∃ n,wIn a [b,c,d,e]=n:=⟨_,rfl⟩
 obtain ⟨t,kt⟩:∃ n,wIn a [b,c,d]=n:=⟨_,rfl⟩
 obtain ⟨q,kq⟩:∃ n,crB a b c d=n:=⟨_,rfl⟩
 obtain ⟨t1,t2,t3⟩:=D2_turn a b c d
 have K:=(⟨kn,by rw [← kn]; exact cmpQ_n _ _ t1,by rw [← kn]; exact cmpQ_n _ _ t2,by rw [← kn]; exact cmpQ_n _ _ t3,by rw [← kn]; exact wneg _,kw,kt,kq⟩:cmpQ (D2 (a.1,a.2.1,a.2.2) (b.1,b.2.1,b.2.2) (c.1,c.2.1,c.2.2) (d.1,d.2.1,d.2.2)) 0=n∧cmpQ (D2 (b.1,b.2.1,b.2.2) (a.1,a.2.1,a.2.2) (c.1,c.2.1,c.2.2) (d.1,d.2.1,d.2.2)) 0 = -n∧cmpQ (D2 (a.1,a.2.1,a.2.2) (c.1,c.2.1,c.2.2) (b.1,b.2.1,b.2.2) (d.1,d.2.1,d.2.2)) 0 = -n∧cmpQ (D2 (a.1,a.2.1,a.2.2) (b.1,b.2.1,b.2.2) (d.1,d.2.1,d.2.2) (c.1,c.2.1,c.2.2)) 0 = -n∧IntKind.i64.wrap (0-n) = -n∧wIn (a.1,a.2.1,a.2.2) [(b.1,b.2.1,b.2.2),(c.1,c.2.1,c.2.2),(d.1,d.2.1,d.2.2),(e.1,e.2.1,e.2.2)]=w∧wIn (a.1,a.2.1,a.2.2) [(b.1,b.2.1,b.2.2),(c.1,c.2.1,c.2.2),(d.1,d.2.1,d.2.2)]=t∧crB (a.1,a.2.1,a.2.2) (b.1,b.2.1,b.2.2) (c.1,c.2.1,c.2.2) (d.1,d.2.1,d.2.2)=q)
 have M:=(⟨by rw [← kn,ea,eb,ec,ed]; exact D2_st v a b c d,by rw [← kw,ea,eb,ec,ed,ee]; exact wIn_st v a [b,c,d,e],by rw [← kt,ea,eb,ec,ed]; exact wIn_st v a [b,c,d],by rw [← kq,ea,eb,ec,ed]; exact crB_st v a b c d⟩:cmpQ (D2 a1 b1 c1 d1) 0=n∧wIn a1 [b1,c1,d1,e1]=w∧wIn a1 [b1,c1,d1]=t∧crB a1 b1 c1 d1=q)
 have M2:cmpQ (D2 (a1.1,a1.2.1,a1.2.2) (b1.1,b1.2.1,b1.2.2) (c1.1,c1.2.1,c1.2.2) (d1.1,d1.2.1,d1.2.2)) 0=n∧wIn (a1.1,a1.2.1,a1.2.2) [(b1.1,b1.2.1,b1.2.2),(c1.1,c1.2.1,c1.2.2),(d1.1,d1.2.1,d1.2.2),(e1.1,e1.2.1,e1.2.2)]=w∧wIn (a1.1,a1.2.1,a1.2.2) [(b1.1,b1.2.1,b1.2.2),(c1.1,c1.2.1,c1.2.2),(d1.1,d1.2.1,d1.2.2)]=t∧crB (a1.1,a1.2.1,a1.2.2) (b1.1,b1.2.1,b1.2.2) (c1.1,c1.2.1,c1.2.2) (d1.1,d1.2.1,d1.2.2)=q:=M
 have O:=(⟨(wIn_same (same_o4 b c d e) a).trans kw,(wIn_same (same_o3 b c d).1 a).trans kt,(wIn_same (same_o3 b c d).2 a).trans kt⟩:wIn (a.1,a.2.1,a.2.2) [(e.1,e.2.1,e.2.2),(b.1,b.2.1,b.2.2),(d.1,d.2.1,d.2.2),(c.1,c.2.1,c.2.2)]=w∧wIn (a.1,a.2.1,a.2.2) [(d.1,d.2.1,d.2.2),(b.1,b.2.1,b.2.2),(c.1,c.2.1,c.2.2)]=t∧wIn (a.1,a.2.1,a.2.2) [(c.1,c.2.1,c.2.2),(b.1,b.2.1,b.2.2),(d.1,d.2.1,d.2.2)]=t)
 have C:=(⟨by simpa using wIn_corner (p:=b) (l:=[b,c,d,e]) (by simp),by simpa using wIn_corner (p:=d) (l:=[b,c,d]) (by simp),(btB_iff ..).2 (btw_end b c).1⟩:(wIn (b.1,b.2.1,b.2.2) [(b.1,b.2.1,b.2.2),(c.1,c.2.1,c.2.2),(d.1,d.2.1,d.2.2),(e.1,e.2.1,e.2.2)] != -1)=true∧(wIn (d.1,d.2.1,d.2.2) [(b.1,b.2.1,b.2.2),(c.1,c.2.1,c.2.2),(d.1,d.2.1,d.2.2)] != -1)=true∧btB (b.1,b.2.1,b.2.2) (b.1,b.2.1,b.2.2) (c.1,c.2.1,c.2.2)=true)
 have T:(wIn (a.1,a.2.1,a.2.2) [(b.1,b.2.1,b.2.2),(c.1,c.2.1,c.2.2),(c.1,c.2.1,c.2.2)] != -1)=btB b a c:=by unfold btB; rw [show wIn (a.1,a.2.1,a.2.2) [(b.1,b.2.1,b.2.2),(c.1,c.2.1,c.2.2),(c.1,c.2.1,c.2.2)]=wIn a [b,c] from wIn_same (same_d2 b c) a]
 have T2:btB (b.1,b.2.1,b.2.2) (a.1,a.2.1,a.2.2) (c.1,c.2.1,c.2.2)=btB b a c:=rfl
 have F:=(⟨bf fga (by decide),bf fgb (by decide),bf fgc (by decide),bf fgd (by decide),bf fge (by decide),i16 fa1 (by decide),i16 fb1 (by decide),i16 fc1 (by decide),i16 fd1 (by decide),i16 fe1 (by decide),i40 fa1 (by decide),i40 fb1 (by decide),i40 fc1 (by decide),i40 fd1 (by decide),i40 fe1 (by decide),vscq_c hga,vscq_c hgb,vscq_c hgc,vscq_c hgd,vscq_c hge,vadq_c ha1,vadq_c hb1,vadq_c hc1,vadq_c hd1,vadq_c he1,bf fv (by decide),(smi (n:=3) (by decide) (by decide))⟩:_∧_∧_∧_∧_∧_∧_∧_∧_∧_∧_∧_∧_∧_∧_∧_∧_∧_∧_∧_∧_∧_∧_∧_∧_∧_∧_)
 simp only [go_sem,nw8,hl,hl3,hn,hv,hok2,B,K,F,rl8]
 refine trN_once HE hP.mix 284 1000 ?_
 iterate 5
  simp only [go_sem,nw8,hl,hl3,hn,hv,hok2,B,K,F,rl8]
  refine goN_once HE hP.mix 284 ?_
 simp only [go_sem,nw8,hl,hl3,hn,hv,hok2,B,K,M2,O,C,T,T2,F,rl8]
 exact .refl _
end Go.Proofs.YtapddfjimhohcaaGreatDoor.AM
