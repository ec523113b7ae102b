/- The laws of lines: meets, lines. -/
import Derived.Test.YtmahhmdeocnlgaaGreatDoorGw
namespace Go.Proofs.YtmahhmdeocnlgaaGreatDoor.AM
set_option linter.all false
set_option autoImplicit true
set_option relaxedAutoImplicit true
open Go Go.Proofs
set_option maxRecDepth 100000
set_option maxHeartbeats 8000000
set_option linter.unusedSimpArgs false
variable {P:Program}
theorem mtP_fV {n m:V3} {h k:Rat} {i:Nat} (hn:fV n i) (hm:fV m i) (hh:fl h≤i) (hk:fl k≤i) (hi:i≤8192):fV (mtP n m h k) 1048576:=by
 have fd:=vcq_fV hn hm
 have f1:fl ((1:Int):Rat)≤64:=fl_i64 (by decide) (by decide)
 have f:=vscq_fV (fl_qdiv f1 (qdt_fl fd fd)) (vadq_fV (vscq_fV hh (vcq_fV hm fd)) (vscq_fV hk (vcq_fV fd hn)))
 exact fV_mono f (by omega)
theorem mtQ_fV {n m:V3} {h k:Rat} {i:Nat} (hn:fV n i) (hm:fV m i) (hh:fl h≤i) (hk:fl k≤i) (hi:i≤8192):fV (mtQ n m h k).1.1 8388608∧fV (mtQ n m h k).1.2 262144:=by
 have z:∀ i,fV v0 (i+1):=fun _=>⟨fl_zero _,fl_zero _,fl_zero _⟩
 unfold mtQ
 by_cases h0:vcq n m=v0
 · rw [if_pos h0]; exact ⟨z 8388607,z 262143⟩
 · rw [if_neg h0,(lnM_1 h0).1]
   have f1:=nrm_fV (vcq_fV hn hm)
   have f2:=lnP_fV (mtP_fV hn hm hh hk hi) f1
   exact ⟨fV_mono f2 (by omega),fV_mono f1 (by omega)⟩
theorem pnr_n {a:V4} (h:nP a ≠ v0):pnr (nP (a.1,a.2.1,a.2.2.1,a.2.2.2))=nP a:=pnr_nz h
theorem linQ_fV {p d q c:V3} (hp:fV p 65536) (hd:fV d 8192) (hq:fV q 65536) (hc:fV c 8192):fV (linQ p d q c).1 4194304:=by
 have z:fV v0 4194304:=⟨fl_zero _,fl_zero _,fl_zero _⟩
 have fn:=vcq_fV hd hc
 have fv:=vsbq_fV hq hp
 have fw:=vcq_fV fv hc
 have ft:=fl_qdiv (qdt_fl fw fn) (qdt_fl fn fn)
 unfold linQ
 split
 · exact z
 · split
   · exact fV_mono (atQ_fV hp hd ft) (by decide)
   · exact z
end Go.Proofs.YtmahhmdeocnlgaaGreatDoor.AM
