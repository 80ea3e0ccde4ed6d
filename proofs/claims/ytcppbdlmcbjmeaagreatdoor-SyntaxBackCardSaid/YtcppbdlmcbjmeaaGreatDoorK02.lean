/- Lemmas that the law needs, part 2. -/
import Derived.Test.YtcppbdlmcbjmeaaGreatDoorRows
import Derived.Test.YtcppbdlmcbjmeaaGreatDoorK01
set_option maxHeartbeats 1600000
set_option maxRecDepth 100000
namespace Go.Proofs.YtcppbdlmcbjmeaaGreatDoor
open Go.RowKit
theorem zEQ:Elt Tryz.prog 64 3 (.int .i64 0) 1 8:=⟨Tryz.underlying64,by kernel_rfl,rfl,by decide⟩
theorem zL8:Elt Tryz.prog 49 5 (.int .u8 0) 1 1:=⟨Tryz.underlying49,by kernel_rfl,rfl,by decide⟩
theorem disable (w:World):(callFunc 182 #[]).run Tryz.prog w=.ok (.value (.tuple #[])) w:=run_call_mark0 Tryz.func182 (by kernel_rfl) (by kernel_rfl) (by kernel_rfl) .disable (by kernel_rfl) w
theorem enable (w:World):(callFunc 184 #[]).run Tryz.prog w=.ok (.value (.tuple #[])) w:=run_call_mark0 Tryz.func184 (by kernel_rfl) (by kernel_rfl) (by kernel_rfl) .enable (by kernel_rfl) w
theorem acquire (a:Addr) (w:World):(callFunc 185 #[.pointer (some a)]).run Tryz.prog w=.ok (.value (.tuple #[])) w:=run_call_marked Tryz.func185 (by kernel_rfl) (by kernel_rfl) (by kernel_rfl) .acquire (by kernel_rfl) a w
theorem releaseMerge (a:Addr) (w:World):(callFunc 187 #[.pointer (some a)]).run Tryz.prog w=.ok (.value (.tuple #[])) w:=run_call_marked Tryz.func187 (by kernel_rfl) (by kernel_rfl) (by kernel_rfl) .releaseMerge (by kernel_rfl) a w
theorem zFd (a:Addr) (x:Value) (u:FrameMode) (w:World) (hc:w.cell? a=some x) (hz:w.frozen? a=false):
 CallsD Tryz.prog 169 #[.pointer (some a),.bool true] u w fun e u' w'=>u'=u∧(e=.returned (.tuple #[])∧w'=w.drew.setCell a (.int .u32 1)):=by
 have hc':w.drew.cell? a=some x:=by go_simp
 have hz':w.drew.frozen? a=false:=by go_simp
 have hst:=run_call_store (P:=Tryz.prog) Tryz.func177 (by kernel_rfl) (by kernel_rfl) (by kernel_rfl) (by kernel_rfl) (k:=.u32) (y:=1) hc' hz'
 go_enter_d Tryz.func169,Tryz.ntmps169
 go_wp2
 go_region_calls
 all_goals (go_end0;exact ⟨rfl,rfl⟩)
theorem zEh (a:Addr) (u:FrameMode) (w:World) (hc:w.cell? a=some (.int .i32 1)) (hz:w.frozen? a=false):
 CallsD Tryz.prog 168 #[.pointer (some a)] u w fun e u' w'=>u'=u∧(e=.returned (.tuple #[])∧w'=w.setCell a (.int .i32 0)):=by
 have hd:=disable;have he:=enable;have hr:=releaseMerge;have hadd:=run_call_add (P:=Tryz.prog) Tryz.func188 (by kernel_rfl) (by kernel_rfl) (by kernel_rfl) .i32 (by kernel_rfl) (y:=-1) (s:=0) hc hz (by simp [go_sem];rfl);have hcv:=run_convert_to_unsafe (P:=Tryz.prog) (src:=279) (dst:=283) Tryz.underlying279 Tryz.underlying283 (by kernel_rfl) hc
 go_enter_d Tryz.func168,Tryz.ntmps168
 go_wp2;go_end0;go_wp2;go_end0;exact ⟨rfl,rfl⟩
theorem zKD (a:Addr) (w:World) (hc:w.cell? a=some (.int .i32 0)) (hz:w.frozen? a=false):
 Calls Tryz.prog 167 #[.pointer (some a)] w fun e w'=>e=.returned (.tuple #[])∧w'=w.setCell a (.int .i32 1):=by
 have hd:=disable;have he:=enable;have ha:=acquire;have hcas:=run_call_cas_hit (P:=Tryz.prog) Tryz.func183 (by kernel_rfl) (by kernel_rfl) (by kernel_rfl) .i32 (by kernel_rfl) (y:=1) hc hz;have hc':(w.setCell a (.int .i32 1)).cell? a=some (.int .i32 1):=World.cell?_setCell_same w a _ hc;have hcv:=run_convert_to_unsafe (P:=Tryz.prog) (src:=279) (dst:=283) Tryz.underlying279 Tryz.underlying283 (by kernel_rfl) hc'
 go_enter Tryz.func167,Tryz.ntmps167
 go_wp2
 first|go_end0|(simp only [Exit.inBlock,Exit.then];refine bodyPost_ret (results_none rfl _ _ _) rfl ?_)|refine bodyPost_ret (results_none rfl _ _ _) rfl ?_
 go_wp2;go_end0;exact ⟨rfl,rfl⟩
def zIj (b off:Nat) (w:World):Prop:=
 w.cell? ⟨b,off,none⟩=some (.int .u32 0)∧w.cell? ⟨b,off+1,none⟩=some (.int .i32 1)∧w.frozen? ⟨b,off,none⟩=false∧w.frozen? ⟨b,off+1,none⟩=false
theorem zJy (b off F:Nat) (caps:Array Value) (hent:∀ w,(callFunc F caps).run Tryz.prog w=.ok (.enter F caps) w) (w:World) (R:World→Prop)
 (h0:w.cell? ⟨b,off,none⟩=some (.int .u32 0)) (h1:w.cell? ⟨b,off+1,none⟩=some (.int .i32 0))
 (f1:w.frozen? ⟨b,off+1,none⟩=false)
 (hcl:Calls Tryz.prog F caps (w.setCell ⟨b,off+1,none⟩ (.int .i32 1)) fun e w'=>e=.returned (.tuple #[])∧zIj b off w'∧R w'):
 Calls Tryz.prog 134 #[.pointer (some ⟨b,off,none⟩),.func (.func F) #[] caps] w fun e w'=>e=.returned (.tuple #[])∧
  ∃ w1,R w1∧w'=(w1.drew.setCell ⟨b,off,none⟩ (.int .u32 1)).setCell ⟨b,off+1,none⟩ (.int .i32 0):=by
 have hl:=run_call_load (P:=Tryz.prog) Tryz.func166 (by kernel_rfl) (by kernel_rfl) (by kernel_rfl) .u32 (by kernel_rfl) (w:=w.setCell ⟨b,off+1,none⟩ (.int .i32 1)) (a:=⟨b,off,none⟩) (x:=0) ((World.cell?_setCell_other _ ⟨b,off+1,none⟩ ⟨b,off,none⟩ _ (by simp)).trans h0);have hnot:∀ (x:Bool) (w:World),(Op.unary .not (.bool x)).run Tryz.prog w=.ok (.bool (!x)) w:=fun _ _=>rfl
 have Hcl:=zh hcl;clear hcl
 go_enter_defers Tryz.func134,Tryz.ntmps134
 go_wp2_with (go_at_call 167;refine (zKD ⟨b,off+1,none⟩ _ (by go_simp) (by go_simp)).mono ?_;rintro e w' ⟨rfl,rfl⟩)
 go_wp2_with (go_at_call 133;go_in)
 refine (Hcl.out).mono ?_;rintro e w1 ⟨rfl,⟨k0,k1,z0,z1⟩,hR⟩;have HR:=zh hR;clear hR;go_wp2;refine leaves_cons (f:=169) (args:=#[.pointer (some ⟨b,off,none⟩),.bool true]) (by simp) (by simp [go_sem]) ?_;refine (zFd ⟨b,off,none⟩ (.int .u32 0) .returning _ k0 z0).mono ?_;rintro e u' w'' ⟨rfl,rfl,rfl⟩;refine leaves_cons (f:=168) (args:=#[.pointer (some ⟨b,off+1,none⟩)]) (by simp [settle]) (by simp [go_sem]) ?_;refine (zEh ⟨b,off+1,none⟩ _ _ ?_ (by simp [z1])).mono ?_
 ·exact (World.cell?_setCell_other _ ⟨b,off,none⟩ ⟨b,off+1,none⟩ _ (by simp)).trans (by rw [World.cell?_drew];exact k1)
 rintro e u' w'' ⟨rfl,rfl,rfl⟩;have hR:=HR.out;simp [Leaves,settle,results,Tryz.results134];exact ⟨_,hR,rfl⟩
theorem zJz (b off F:Nat) (caps:Array Value) (hent:∀ w,(callFunc F caps).run Tryz.prog w=.ok (.enter F caps) w) (w:World) (R:World→Prop)
 (h0:w.cell? ⟨b,off,none⟩=some (.int .u32 0)) (h1:w.cell? ⟨b,off+1,none⟩=some (.int .i32 0))
 (f1:w.frozen? ⟨b,off+1,none⟩=false)
 (hcl:Calls Tryz.prog F caps (w.setCell ⟨b,off+1,none⟩ (.int .i32 1)) fun e w'=>e=.returned (.tuple #[])∧zIj b off w'∧R w'):
 Calls Tryz.prog 98 #[.pointer (some ⟨b,off,none⟩),.func (.func F) #[] caps] w fun e w'=>e=.returned (.tuple #[])∧
  ∃ w1,R w1∧w'=(w1.drew.setCell ⟨b,off,none⟩ (.int .u32 1)).setCell ⟨b,off+1,none⟩ (.int .i32 0):=by
 have hl:=run_call_load (P:=Tryz.prog) Tryz.func166 (by kernel_rfl) (by kernel_rfl) (by kernel_rfl) .u32 (by kernel_rfl) h0;have hnot:∀ (x:Bool) (w:World),(Op.unary .not (.bool x)).run Tryz.prog w=.ok (.bool (!x)) w:=fun _ _=>rfl
 have hs:=zJy b off F caps hent w R h0 h1 f1 hcl;have Hs:=zh hs;clear hs hcl
 go_enter Tryz.func98,Tryz.ntmps98
 go_wp2_with (go_at_call 133;go_in)
 refine (Hs.out).mono ?_;rintro e w1 ⟨rfl,hR⟩;have HR:=zh hR;clear hR;go_wp2;go_end0;exact ⟨rfl,HR.out⟩
def IntSlice (w:World) (v:Value) (xs:List Int):Prop:=
 ∃ ao cap,v=.slice ao xs.length cap∧(xs=[]∨∃ g off,ao=some ⟨g,off,none⟩∧∀ i,i<xs.length→w.cell? ⟨g,off+i,none⟩=some (.int .i64 (xs.getD i 0)))
theorem IntSlice.of_block {w:World} {g cap:Nat} {e:TypeId} {xs:List Int} (h:w.heap[g]? =some (.cells (ints xs) e (0,0))):IntSlice w (.slice (some ⟨g,0,none⟩) xs.length cap) xs:=
 ⟨_,_,rfl,.inr ⟨g,0,rfl,fun i hi=>by rw [zA h,Nat.zero_add];exact zBh _ _ hi⟩⟩
theorem IntSlice.only {S:List Nat} {w w':World} {v:Value} {xs:List Int} (h:IntSlice w v xs) (ho:Only S w w') (hs:∀ g off c,v=.slice (some ⟨g,off,none⟩) xs.length c→g∉S):IntSlice w' v xs:=by
 obtain ⟨ao,cap,rfl,hx⟩:=h;refine ⟨ao,cap,rfl,?_⟩
 rcases hx with hx|⟨g,off,rfl,hc⟩
 ·exact .inl hx
 ·exact .inr ⟨g,off,rfl,fun i hi=>ho.cell (hc i hi) (hs g off cap rfl)⟩
end Go.Proofs.YtcppbdlmcbjmeaaGreatDoor
