/- The laws of lines: meets, lines. -/
import Derived.Test.YtmahhmdeocnlgaaGreatDoorB12
namespace Go.Proofs.YtmahhmdeocnlgaaGreatDoor.AM
set_option linter.all false
set_option autoImplicit true
set_option relaxedAutoImplicit true
open Go Go.Proofs
set_option maxRecDepth 100000
set_option maxHeartbeats 8000000
set_option linter.unusedSimpArgs false
variable {P:Program}
theorem mtP_fV {n m:V3} {h k:Rat} {i:Nat} (hn:fV n i) (hm:fV m i) (hh:fl h≤i) (hk:fl k≤i) (hi:i≤8192):fV (mtP n m h k) 1048576:=by
 have fd:=vcq_fV hn hm
 have f1:fl ((1:Int):Rat)≤64:=fl_i64 (by decide) (by decide)
 have f:=vscq_fV (fl_qdiv f1 (qdt_fl fd fd)) (vadq_fV (vscq_fV hh (vcq_fV hm fd)) (vscq_fV hk (vcq_fV fd hn)))
 exact fV_mono f (by omega)
theorem mtQ_fV {n m:V3} {h k:Rat} {i:Nat} (hn:fV n i) (hm:fV m i) (hh:fl h≤i) (hk:fl k≤i) (hi:i≤8192):fV (mtQ n m h k).1.1 8388608∧fV (mtQ n m h k).1.2 262144:=by
 have z:∀ i,fV v0 (i+1):=fun _=>⟨fl_zero _,fl_zero _,fl_zero _⟩
 unfold mtQ
 by_cases h0:vcq n m=v0
 · rw [if_pos h0]; exact ⟨z 8388607,z 262143⟩
 · rw [if_neg h0,(lnM_1 h0).1]
   have f1:=nrm_fV (vcq_fV hn hm)
   have f2:=lnP_fV (mtP_fV hn hm hh hk hi) f1
   exact ⟨fV_mono f2 (by omega),fV_mono f1 (by omega)⟩
theorem pnr_n {a:V4} (h:nP a ≠ v0):pnr (nP (a.1,a.2.1,a.2.2.1,a.2.2.2))=nP a:=pnr_nz h
theorem LineMeets_spec (hP:PrgOk P) (L:List ByteArray) (hl:L.length=4) (hs:∀ s ∈ L,s.size≤maxS) (M:List ByteArray) (hm:M.length=4) (ht:∀ s ∈ M,s.size≤maxS):CSpec P 4 [.agg (L.map .str),.agg (M.map .str)] (.bool true):=by
 obtain ⟨x,y,z,w,rfl,hx,hy,hz,hw⟩:=four hl hs
 obtain ⟨x',y',z',w',rfl,hx',hy',hz',hw'⟩:=four hm ht
 have HE:=Lx7_all hP TF hP.tF
 simp only [List.map_cons,List.map_nil]
 refine CSpec_go (E:=⟨TF,Lx7⟩) (fn4 hP) HE hP.mix ?_
 by_cases h1:plO x y z w=true
 · by_cases h2:plO x' y' z' w'=true
   · have h1':=h1
     obtain ⟨a,hca,hna,hfa⟩:=plO_t h1
     have hoa:(plO x y z w=true)=True:=eq_true h1
     have fna:fV (nP a) 8192:=⟨hfa.1,hfa.2.1,hfa.2.2.1⟩
     have hpa:=pnr_n hna
     obtain ⟨b,hcb,hnb,hfb⟩:=plO_t h2
     have hob:(plO x' y' z' w'=true)=True:=eq_true h2
     have fnb:fV (nP b) 8192:=⟨hfb.1,hfb.2.1,hfb.2.2.1⟩
     have hpb:=pnr_n hnb
     have e1:=mtIs (nP a) (nP b) a.2.2.2 b.2.2.2
     have f1:=mtQ_fV fna fnb hfa.2.2.2 hfb.2.2.2 (by decide)
     obtain ⟨R,hR⟩:∃ r,mtQ (nP a) (nP b) a.2.2.2 b.2.2.2=r:=⟨_,rfl⟩
     obtain ⟨S,hS⟩:∃ r,rmQ (nP a) (nP b) a.2.2.2 b.2.2.2=r:=⟨_,rfl⟩
     rw [hR,hS] at e1
     rw [hR] at f1
     obtain ⟨e1,e2,e3⟩:=e1
     have f2:fV (ldr R.1.2) 262144:=ldr_fV f1.2 (by decide)
     have f3:=f1.1
     rw [e2] at f2
     rw [e1] at f3
     have hS':rmQ (nP (a.1,a.2.1,a.2.2.1,a.2.2.2)) (nP (b.1,b.2.1,b.2.2.1,b.2.2.2)) a.2.2.2 b.2.2.2=S:=hS
     have d1:decide (((R.1.1.1,R.1.1.2.1,R.1.1.2.2):V3)=(S.1.1.1,S.1.1.2.1,S.1.1.2.2))=true:=decide_eq_true e1
     have d2:decide (ldr (R.1.2.1,R.1.2.2.1,R.1.2.2.2)=(S.1.2.1,S.1.2.2.1,S.1.2.2.2))=true:=decide_eq_true e2
     simp only [go_sem,hx,hy,hz,hw,hx',hy',hz',hw',hoa,hob,hca,hcb,hfa.1,hfa.2.1,hfa.2.2.1,hfa.2.2.2,hfb.1,hfb.2.1,hfb.2.2.1,hfb.2.2.2,hpa,hpb,hR,hS',e3,beq_s,d1,d2,bf f1.1 (by decide),bf f1.2 (by decide),bf f2 (by decide),bf f3 (by decide),Bool.and_true]
     exact .refl _
   · have h2':=eq_false h2
     have h1':=eq_true h1
     simp only [go_sem,hx,hy,hz,hw,hx',hy',hz',hw',h1',h2']
     exact .refl _
 · have h1':=eq_false h1
   by_cases h2:plO x' y' z' w'=true
   · have h2':=eq_true h2
     simp only [go_sem,hx,hy,hz,hw,hx',hy',hz',hw',h1',h2']
     exact .refl _
   · have h2':=eq_false h2
     simp only [go_sem,hx,hy,hz,hw,hx',hy',hz',hw',h1',h2']
     exact .refl _
end Go.Proofs.YtmahhmdeocnlgaaGreatDoor.AM
