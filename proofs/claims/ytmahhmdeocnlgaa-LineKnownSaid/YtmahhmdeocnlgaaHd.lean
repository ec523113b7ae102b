/- The laws of lines: examples. -/
import Derived.Test.YtmahhmdeocnlgaaB7
namespace Go.Proofs.Ytmahhmdeocnlgaa.AM
set_option linter.all false
set_option autoImplicit true
set_option relaxedAutoImplicit true
open Go Go.Proofs
set_option maxRecDepth 100000
set_option maxHeartbeats 8000000
set_option linter.unusedSimpArgs false
variable {P:Program}
theorem bne_t (z:Int):(z != z)=false:=by simp
theorem beq_t (z:Int):(z == z)=true:=by simp
theorem LineKnown_spec (hP:PrgOk P):CSpec P 3 [] (.bool true):=by
 have HE:=Lx7_all hP TF hP.tF
 obtain ⟨A0,hA0⟩:∃ q:Rat,q=0:=⟨_,rfl⟩
 obtain ⟨A1,hA1⟩:∃ q:Rat,q=1:=⟨_,rfl⟩
 obtain ⟨A2,hA2⟩:∃ q:Rat,q=2:=⟨_,rfl⟩
 obtain ⟨A3,hA3⟩:∃ q:Rat,q=3:=⟨_,rfl⟩
 obtain ⟨A5,hA5⟩:∃ q:Rat,q=5:=⟨_,rfl⟩
 have fz:=sm (fl_zero 4095)
 have f0:=sm (x:=A0) (by rw [hA0]; decide +kernel)
 have f1:=sm (x:=A1) (by rw [hA1]; decide +kernel)
 have f2:=sm (x:=A2) (by rw [hA2]; decide +kernel)
 have f3:=sm (x:=A3) (by rw [hA3]; decide +kernel)
 have f5:=sm (x:=A5) (by rw [hA5]; decide +kernel)
 have i0:=(smi (n:=0) (by decide) (by decide)).2
 have i1:=(smi (n:=1) (by decide) (by decide)).2
 have i2:=(smi (n:=2) (by decide) (by decide)).2
 have i3:=(smi (n:=3) (by decide) (by decide)).2
 have i5:=(smi (n:=5) (by decide) (by decide)).2
 have c0:((0:Int):Rat)=A0:=by rw [hA0]; rfl
 have c1:((1:Int):Rat)=A1:=by rw [hA1]; rfl
 have c2:((2:Int):Rat)=A2:=by rw [hA2]; rfl
 have c3:((3:Int):Rat)=A3:=by rw [hA3]; rfl
 have c5:((5:Int):Rat)=A5:=by rw [hA5]; rfl
 have l1:lnM (A1,A0,A0) (vsbq (A1,A0,A5) (A1,A0,A0))=((A1,A0,A0),(A0,A0,A1)):=by
  try simp only [hA0,hA1,hA2,hA3,hA5]
  try unfold linQ
  try unfold mtQ mtP
  try unfold plnQ
  try unfold plcQ
  try unfold lnM lnP lnT nrm ngV
  try unfold atQ
  try unfold vcq
  try unfold vsbq
  try unfold vadq
  try unfold vscq
  try unfold qdt
  try simp only [qadd_eq,qsub_eq,qmul_eq,qdiv_eq,qneg_eq]
  decide +kernel
 have l2:lnM (0,0,0) (A0,A1,A0)=((A0,A0,A0),(A0,A1,A0)):=by
  try simp only [hA0,hA1,hA2,hA3,hA5]
  try unfold linQ
  try unfold mtQ mtP
  try unfold plnQ
  try unfold plcQ
  try unfold lnM lnP lnT nrm ngV
  try unfold atQ
  try unfold vcq
  try unfold vsbq
  try unfold vadq
  try unfold vscq
  try unfold qdt
  try simp only [qadd_eq,qsub_eq,qmul_eq,qdiv_eq,qneg_eq]
  decide +kernel
 have l3:lnM (A0,A1,A0) (A1,A0,A0)=((A0,A1,A0),(A1,A0,A0)):=by
  try simp only [hA0,hA1,hA2,hA3,hA5]
  try unfold linQ
  try unfold mtQ mtP
  try unfold plnQ
  try unfold plcQ
  try unfold lnM lnP lnT nrm ngV
  try unfold atQ
  try unfold vcq
  try unfold vsbq
  try unfold vadq
  try unfold vscq
  try unfold qdt
  try simp only [qadd_eq,qsub_eq,qmul_eq,qdiv_eq,qneg_eq]
  decide +kernel
 have l4:lnM (A0,A1,A0) (A0,A0,A1)=((A0,A1,A0),(A0,A0,A1)):=by
  try simp only [hA0,hA1,hA2,hA3,hA5]
  try unfold linQ
  try unfold mtQ mtP
  try unfold plnQ
  try unfold plcQ
  try unfold lnM lnP lnT nrm ngV
  try unfold atQ
  try unfold vcq
  try unfold vsbq
  try unfold vadq
  try unfold vscq
  try unfold qdt
  try simp only [qadd_eq,qsub_eq,qmul_eq,qdiv_eq,qneg_eq]
  decide +kernel
 have e1:lnE (vsbq (A1,A0,A5) (A1,A0,A0))=0:=by
  try simp only [hA0,hA1,hA2,hA3,hA5]
  try unfold linQ
  try unfold mtQ mtP
  try unfold plnQ
  try unfold plcQ
  try unfold lnM lnP lnT nrm ngV
  try unfold atQ
  try unfold vcq
  try unfold vsbq
  try unfold vadq
  try unfold vscq
  try unfold qdt
  try simp only [qadd_eq,qsub_eq,qmul_eq,qdiv_eq,qneg_eq]
  decide +kernel
 have e2:lnE (vsbq (A1,A2,A3) (A1,A2,A3))=2:=by
  try simp only [hA0,hA1,hA2,hA3,hA5]
  try unfold linQ
  try unfold mtQ mtP
  try unfold plnQ
  try unfold plcQ
  try unfold lnM lnP lnT nrm ngV
  try unfold atQ
  try unfold vcq
  try unfold vsbq
  try unfold vadq
  try unfold vscq
  try unfold qdt
  try simp only [qadd_eq,qsub_eq,qmul_eq,qdiv_eq,qneg_eq]
  decide +kernel
 have e3:lnE (0,0,0)=2:=by
  try simp only [hA0,hA1,hA2,hA3,hA5]
  try unfold linQ
  try unfold mtQ mtP
  try unfold plnQ
  try unfold plcQ
  try unfold lnM lnP lnT nrm ngV
  try unfold atQ
  try unfold vcq
  try unfold vsbq
  try unfold vadq
  try unfold vscq
  try unfold qdt
  try simp only [qadd_eq,qsub_eq,qmul_eq,qdiv_eq,qneg_eq]
  decide +kernel
 have e4:lnE (A0,A1,A0)=0:=by
  try simp only [hA0,hA1,hA2,hA3,hA5]
  try unfold linQ
  try unfold mtQ mtP
  try unfold plnQ
  try unfold plcQ
  try unfold lnM lnP lnT nrm ngV
  try unfold atQ
  try unfold vcq
  try unfold vsbq
  try unfold vadq
  try unfold vscq
  try unfold qdt
  try simp only [qadd_eq,qsub_eq,qmul_eq,qdiv_eq,qneg_eq]
  decide +kernel
 have e5:lnE (A1,A0,A0)=0:=by
  try simp only [hA0,hA1,hA2,hA3,hA5]
  try unfold linQ
  try unfold mtQ mtP
  try unfold plnQ
  try unfold plcQ
  try unfold lnM lnP lnT nrm ngV
  try unfold atQ
  try unfold vcq
  try unfold vsbq
  try unfold vadq
  try unfold vscq
  try unfold qdt
  try simp only [qadd_eq,qsub_eq,qmul_eq,qdiv_eq,qneg_eq]
  decide +kernel
 have e6:lnE (A0,A0,A1)=0:=by
  try simp only [hA0,hA1,hA2,hA3,hA5]
  try unfold linQ
  try unfold mtQ mtP
  try unfold plnQ
  try unfold plcQ
  try unfold lnM lnP lnT nrm ngV
  try unfold atQ
  try unfold vcq
  try unfold vsbq
  try unfold vadq
  try unfold vscq
  try unfold qdt
  try simp only [qadd_eq,qsub_eq,qmul_eq,qdiv_eq,qneg_eq]
  decide +kernel
 have p1:plV (A1,A0,A0,A1)=(A1,A0,A0,A1):=by
  try simp only [hA0,hA1,hA2,hA3,hA5]
  try unfold linQ
  try unfold mtQ mtP
  try unfold plnQ
  try unfold plcQ
  try unfold lnM lnP lnT nrm ngV
  try unfold atQ
  try unfold vcq
  try unfold vsbq
  try unfold vadq
  try unfold vscq
  try unfold qdt
  try simp only [qadd_eq,qsub_eq,qmul_eq,qdiv_eq,qneg_eq]
  decide +kernel
 have p2:plV (A1,A0,A0,A2)=(A1,A0,A0,A2):=by
  try simp only [hA0,hA1,hA2,hA3,hA5]
  try unfold linQ
  try unfold mtQ mtP
  try unfold plnQ
  try unfold plcQ
  try unfold lnM lnP lnT nrm ngV
  try unfold atQ
  try unfold vcq
  try unfold vsbq
  try unfold vadq
  try unfold vscq
  try unfold qdt
  try simp only [qadd_eq,qsub_eq,qmul_eq,qdiv_eq,qneg_eq]
  decide +kernel
 have p3:plV (A0,A1,A0,A2)=(A0,A1,A0,A2):=by
  try simp only [hA0,hA1,hA2,hA3,hA5]
  try unfold linQ
  try unfold mtQ mtP
  try unfold plnQ
  try unfold plcQ
  try unfold lnM lnP lnT nrm ngV
  try unfold atQ
  try unfold vcq
  try unfold vsbq
  try unfold vadq
  try unfold vscq
  try unfold qdt
  try simp only [qadd_eq,qsub_eq,qmul_eq,qdiv_eq,qneg_eq]
  decide +kernel
 have p4:plV (A0,A1,A0,A0)=(A0,A1,A0,A0):=by
  try simp only [hA0,hA1,hA2,hA3,hA5]
  try unfold linQ
  try unfold mtQ mtP
  try unfold plnQ
  try unfold plcQ
  try unfold lnM lnP lnT nrm ngV
  try unfold atQ
  try unfold vcq
  try unfold vsbq
  try unfold vadq
  try unfold vscq
  try unfold qdt
  try simp only [qadd_eq,qsub_eq,qmul_eq,qdiv_eq,qneg_eq]
  decide +kernel
 have g1:plE (A1,A0,A0,A1)=0:=by
  try simp only [hA0,hA1,hA2,hA3,hA5]
  try unfold linQ
  try unfold mtQ mtP
  try unfold plnQ
  try unfold plcQ
  try unfold lnM lnP lnT nrm ngV
  try unfold atQ
  try unfold vcq
  try unfold vsbq
  try unfold vadq
  try unfold vscq
  try unfold qdt
  try simp only [qadd_eq,qsub_eq,qmul_eq,qdiv_eq,qneg_eq]
  decide +kernel
 have g2:plE (A1,A0,A0,A2)=0:=by
  try simp only [hA0,hA1,hA2,hA3,hA5]
  try unfold linQ
  try unfold mtQ mtP
  try unfold plnQ
  try unfold plcQ
  try unfold lnM lnP lnT nrm ngV
  try unfold atQ
  try unfold vcq
  try unfold vsbq
  try unfold vadq
  try unfold vscq
  try unfold qdt
  try simp only [qadd_eq,qsub_eq,qmul_eq,qdiv_eq,qneg_eq]
  decide +kernel
 have g3:plE (A0,A1,A0,A2)=0:=by
  try simp only [hA0,hA1,hA2,hA3,hA5]
  try unfold linQ
  try unfold mtQ mtP
  try unfold plnQ
  try unfold plcQ
  try unfold lnM lnP lnT nrm ngV
  try unfold atQ
  try unfold vcq
  try unfold vsbq
  try unfold vadq
  try unfold vscq
  try unfold qdt
  try simp only [qadd_eq,qsub_eq,qmul_eq,qdiv_eq,qneg_eq]
  decide +kernel
 have g4:plE (A0,A1,A0,A0)=0:=by
  try simp only [hA0,hA1,hA2,hA3,hA5]
  try unfold linQ
  try unfold mtQ mtP
  try unfold plnQ
  try unfold plcQ
  try unfold lnM lnP lnT nrm ngV
  try unfold atQ
  try unfold vcq
  try unfold vsbq
  try unfold vadq
  try unfold vscq
  try unfold qdt
  try simp only [qadd_eq,qsub_eq,qmul_eq,qdiv_eq,qneg_eq]
  decide +kernel
 have n1:pnr (nP (A1,A0,A0,A1))=(A1,A0,A0):=by
  try simp only [hA0,hA1,hA2,hA3,hA5]
  try unfold linQ
  try unfold mtQ mtP
  try unfold plnQ
  try unfold plcQ
  try unfold lnM lnP lnT nrm ngV
  try unfold atQ
  try unfold vcq
  try unfold vsbq
  try unfold vadq
  try unfold vscq
  try unfold qdt
  try simp only [qadd_eq,qsub_eq,qmul_eq,qdiv_eq,qneg_eq]
  decide +kernel
 have n2:pnr (nP (A1,A0,A0,A2))=(A1,A0,A0):=by
  try simp only [hA0,hA1,hA2,hA3,hA5]
  try unfold linQ
  try unfold mtQ mtP
  try unfold plnQ
  try unfold plcQ
  try unfold lnM lnP lnT nrm ngV
  try unfold atQ
  try unfold vcq
  try unfold vsbq
  try unfold vadq
  try unfold vscq
  try unfold qdt
  try simp only [qadd_eq,qsub_eq,qmul_eq,qdiv_eq,qneg_eq]
  decide +kernel
 have n3:pnr (nP (A0,A1,A0,A2))=(A0,A1,A0):=by
  try simp only [hA0,hA1,hA2,hA3,hA5]
  try unfold linQ
  try unfold mtQ mtP
  try unfold plnQ
  try unfold plcQ
  try unfold lnM lnP lnT nrm ngV
  try unfold atQ
  try unfold vcq
  try unfold vsbq
  try unfold vadq
  try unfold vscq
  try unfold qdt
  try simp only [qadd_eq,qsub_eq,qmul_eq,qdiv_eq,qneg_eq]
  decide +kernel
 have n4:pnr (nP (A0,A1,A0,A0))=(A0,A1,A0):=by
  try simp only [hA0,hA1,hA2,hA3,hA5]
  try unfold linQ
  try unfold mtQ mtP
  try unfold plnQ
  try unfold plcQ
  try unfold lnM lnP lnT nrm ngV
  try unfold atQ
  try unfold vcq
  try unfold vsbq
  try unfold vadq
  try unfold vscq
  try unfold qdt
  try simp only [qadd_eq,qsub_eq,qmul_eq,qdiv_eq,qneg_eq]
  decide +kernel
 have m1:mtQ (A1,A0,A0) (A0,A1,A0) A1 A2=(((A1,A2,A0),(A0,A0,A1)),0):=by
  try simp only [hA0,hA1,hA2,hA3,hA5]
  try unfold linQ
  try unfold mtQ mtP
  try unfold plnQ
  try unfold plcQ
  try unfold lnM lnP lnT nrm ngV
  try unfold atQ
  try unfold vcq
  try unfold vsbq
  try unfold vadq
  try unfold vscq
  try unfold qdt
  try simp only [qadd_eq,qsub_eq,qmul_eq,qdiv_eq,qneg_eq]
  decide +kernel
 have m2:mtQ (A1,A0,A0) (A1,A0,A0) A1 A2=(((0,0,0),(0,0,0)),60):=by
  try simp only [hA0,hA1,hA2,hA3,hA5]
  try unfold linQ
  try unfold mtQ mtP
  try unfold plnQ
  try unfold plcQ
  try unfold lnM lnP lnT nrm ngV
  try unfold atQ
  try unfold vcq
  try unfold vsbq
  try unfold vadq
  try unfold vscq
  try unfold qdt
  try simp only [qadd_eq,qsub_eq,qmul_eq,qdiv_eq,qneg_eq]
  decide +kernel
 have m3:mtQ (A1,A0,A0) (A1,A0,A0) A1 A1=(((0,0,0),(0,0,0)),60):=by
  try simp only [hA0,hA1,hA2,hA3,hA5]
  try unfold linQ
  try unfold mtQ mtP
  try unfold plnQ
  try unfold plcQ
  try unfold lnM lnP lnT nrm ngV
  try unfold atQ
  try unfold vcq
  try unfold vsbq
  try unfold vadq
  try unfold vscq
  try unfold qdt
  try simp only [qadd_eq,qsub_eq,qmul_eq,qdiv_eq,qneg_eq]
  decide +kernel
 have d0:ldr (0,0,0)=(A1,A0,A0):=by
  try simp only [hA0,hA1,hA2,hA3,hA5]
  try unfold linQ
  try unfold mtQ mtP
  try unfold plnQ
  try unfold plcQ
  try unfold lnM lnP lnT nrm ngV
  try unfold atQ
  try unfold vcq
  try unfold vsbq
  try unfold vadq
  try unfold vscq
  try unfold qdt
  try simp only [qadd_eq,qsub_eq,qmul_eq,qdiv_eq,qneg_eq]
  decide +kernel
 have d1:ldr (A1,A0,A0)=(A1,A0,A0):=by
  try simp only [hA0,hA1,hA2,hA3,hA5]
  try unfold linQ
  try unfold mtQ mtP
  try unfold plnQ
  try unfold plcQ
  try unfold lnM lnP lnT nrm ngV
  try unfold atQ
  try unfold vcq
  try unfold vsbq
  try unfold vadq
  try unfold vscq
  try unfold qdt
  try simp only [qadd_eq,qsub_eq,qmul_eq,qdiv_eq,qneg_eq]
  decide +kernel
 have d2:ldr (A0,A1,A0)=(A0,A1,A0):=by
  try simp only [hA0,hA1,hA2,hA3,hA5]
  try unfold linQ
  try unfold mtQ mtP
  try unfold plnQ
  try unfold plcQ
  try unfold lnM lnP lnT nrm ngV
  try unfold atQ
  try unfold vcq
  try unfold vsbq
  try unfold vadq
  try unfold vscq
  try unfold qdt
  try simp only [qadd_eq,qsub_eq,qmul_eq,qdiv_eq,qneg_eq]
  decide +kernel
 have d3:ldr (A0,A0,A1)=(A0,A0,A1):=by
  try simp only [hA0,hA1,hA2,hA3,hA5]
  try unfold linQ
  try unfold mtQ mtP
  try unfold plnQ
  try unfold plcQ
  try unfold lnM lnP lnT nrm ngV
  try unfold atQ
  try unfold vcq
  try unfold vsbq
  try unfold vadq
  try unfold vscq
  try unfold qdt
  try simp only [qadd_eq,qsub_eq,qmul_eq,qdiv_eq,qneg_eq]
  decide +kernel
 have q1:plnQ (0,0,0) (A1,A0,A0) (A1,A0,A0) A2=(A2,false,0):=by
  try simp only [hA0,hA1,hA2,hA3,hA5]
  try unfold linQ
  try unfold mtQ mtP
  try unfold plnQ
  try unfold plcQ
  try unfold lnM lnP lnT nrm ngV
  try unfold atQ
  try unfold vcq
  try unfold vsbq
  try unfold vadq
  try unfold vscq
  try unfold qdt
  try simp only [qadd_eq,qsub_eq,qmul_eq,qdiv_eq,qneg_eq]
  decide +kernel
 have q2:plnQ (0,0,0) (A1,A0,A0) (A0,A1,A0) A0=(0,true,0):=by
  try simp only [hA0,hA1,hA2,hA3,hA5]
  try unfold linQ
  try unfold mtQ mtP
  try unfold plnQ
  try unfold plcQ
  try unfold lnM lnP lnT nrm ngV
  try unfold atQ
  try unfold vcq
  try unfold vsbq
  try unfold vadq
  try unfold vscq
  try unfold qdt
  try simp only [qadd_eq,qsub_eq,qmul_eq,qdiv_eq,qneg_eq]
  decide +kernel
 have q3:plnQ (0,0,0) (A1,A0,A0) (A0,A1,A0) A2=(0,false,60):=by
  try simp only [hA0,hA1,hA2,hA3,hA5]
  try unfold linQ
  try unfold mtQ mtP
  try unfold plnQ
  try unfold plcQ
  try unfold lnM lnP lnT nrm ngV
  try unfold atQ
  try unfold vcq
  try unfold vsbq
  try unfold vadq
  try unfold vscq
  try unfold qdt
  try simp only [qadd_eq,qsub_eq,qmul_eq,qdiv_eq,qneg_eq]
  decide +kernel
 have r1:linQ (0,0,0) (A1,A0,A0) (A0,A0,A0) (A0,A1,A0)=((A0,A0,A0),0):=by
  try simp only [hA0,hA1,hA2,hA3,hA5]
  try unfold linQ
  try unfold mtQ mtP
  try unfold plnQ
  try unfold plcQ
  try unfold lnM lnP lnT nrm ngV
  try unfold atQ
  try unfold vcq
  try unfold vsbq
  try unfold vadq
  try unfold vscq
  try unfold qdt
  try simp only [qadd_eq,qsub_eq,qmul_eq,qdiv_eq,qneg_eq]
  decide +kernel
 have r2:linQ (0,0,0) (A1,A0,A0) (A0,A1,A0) (A1,A0,A0)=((0,0,0),60):=by
  try simp only [hA0,hA1,hA2,hA3,hA5]
  try unfold linQ
  try unfold mtQ mtP
  try unfold plnQ
  try unfold plcQ
  try unfold lnM lnP lnT nrm ngV
  try unfold atQ
  try unfold vcq
  try unfold vsbq
  try unfold vadq
  try unfold vscq
  try unfold qdt
  try simp only [qadd_eq,qsub_eq,qmul_eq,qdiv_eq,qneg_eq]
  decide +kernel
 have r3:linQ (0,0,0) (A1,A0,A0) (A0,A1,A0) (A0,A0,A1)=((0,0,0),60):=by
  try simp only [hA0,hA1,hA2,hA3,hA5]
  try unfold linQ
  try unfold mtQ mtP
  try unfold plnQ
  try unfold plcQ
  try unfold lnM lnP lnT nrm ngV
  try unfold atQ
  try unfold vcq
  try unfold vsbq
  try unfold vadq
  try unfold vscq
  try unfold qdt
  try simp only [qadd_eq,qsub_eq,qmul_eq,qdiv_eq,qneg_eq]
  decide +kernel
 have r4:linQ (0,0,0) (A1,A0,A0) (0,0,0) (A1,A0,A0)=((0,0,0),60):=by
  try simp only [hA0,hA1,hA2,hA3,hA5]
  try unfold linQ
  try unfold mtQ mtP
  try unfold plnQ
  try unfold plcQ
  try unfold lnM lnP lnT nrm ngV
  try unfold atQ
  try unfold vcq
  try unfold vsbq
  try unfold vadq
  try unfold vscq
  try unfold qdt
  try simp only [qadd_eq,qsub_eq,qmul_eq,qdiv_eq,qneg_eq]
  decide +kernel
 have s1:plcQ (0,0,0) (A1,A0,A0) (A2,A0,A0)=(A2,true):=by
  try simp only [hA0,hA1,hA2,hA3,hA5]
  try unfold linQ
  try unfold mtQ mtP
  try unfold plnQ
  try unfold plcQ
  try unfold lnM lnP lnT nrm ngV
  try unfold atQ
  try unfold vcq
  try unfold vsbq
  try unfold vadq
  try unfold vscq
  try unfold qdt
  try simp only [qadd_eq,qsub_eq,qmul_eq,qdiv_eq,qneg_eq]
  decide +kernel
 have s2:plcQ (0,0,0) (A1,A0,A0) (A2,A1,A0)=(0,false):=by
  try simp only [hA0,hA1,hA2,hA3,hA5]
  try unfold linQ
  try unfold mtQ mtP
  try unfold plnQ
  try unfold plcQ
  try unfold lnM lnP lnT nrm ngV
  try unfold atQ
  try unfold vcq
  try unfold vsbq
  try unfold vadq
  try unfold vscq
  try unfold qdt
  try simp only [qadd_eq,qsub_eq,qmul_eq,qdiv_eq,qneg_eq]
  decide +kernel
 have z0:decide (((A0,A0,A0):V3)=v0)=true:=by
  try simp only [hA0,hA1,hA2,hA3,hA5]
  try unfold linQ
  try unfold mtQ mtP
  try unfold plnQ
  try unfold plcQ
  try unfold lnM lnP lnT nrm ngV
  try unfold atQ
  try unfold vcq
  try unfold vsbq
  try unfold vadq
  try unfold vscq
  try unfold qdt
  try simp only [qadd_eq,qsub_eq,qmul_eq,qdiv_eq,qneg_eq]
  decide +kernel
 have t2:((qtS A2).toList == (ByteArray.mk #[50]).toList)=true:=lit_text [50] rfl (by decide) (by decide) (by decide) (by decide) (by decide) (by rw [hA2]; decide +kernel)
 refine CSpec_go (E:=⟨TF,Lx7⟩) (fn3 hP) HE hP.mix ?_
 simp only [go_sem,i0,i1,i2,i3,i5,c0,c1,c2,c3,c5,fz,f0,f1,f2,f3,f5,l1,l2,l3,l4,e1,e2,e3,e4,e5,e6,p1,p2,p3,p4,g1,g2,g3,g4,n1,n2,n3,n4,m1,m2,m3,d0,d1,d2,d3,q1,q2,q3,r1,r2,r3,r4,s1,s2,z0,t2,cmpV_self,cmpQ_self,beq_t,bne_t]
 exact .refl _
end Go.Proofs.Ytmahhmdeocnlgaa.AM
