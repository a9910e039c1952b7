/- What the second form's bound counts; closed facts of the program. -/
import Derived.Test.YtdgcepphjnoalaaGreatRows
import Derived.Test.YtdgcepphjnoalaaGreatAwDraw2
set_option linter.all false
namespace Go.Proofs.YtdgcepphjnoalaaGreat
open Go.AW
theorem own:ownKnob Tryz.prog.godebug=none:=by kernel_rfl
theorem laidOut:laidOutB Tryz.prog=true:=by kernel_rfl
theorem mapsLaid:mapsRowed Tryz.prog=true:=by kernel_rfl
theorem slicesFull:((List.range Tryz.prog.types.size).all fun t=>match Tryz.prog.underlying t with|some (.slice e)=>decide (0<Tryz.prog.cellsOf e)|_=>true)=true:=by kernel_rfl
theorem bulkAll {H:Type}(l:List (DataW H)):Rows.uptoBulkAll l=(l.map Rows.uptoBulk).sum:=by
 induction l with
 | nil=>rfl
 | cons x l ih=>simp only[Rows.uptoBulkAll,List.map_cons,List.sum_cons,ih]
theorem isBulk {H:Type}:IsBulk (H:=H) Rows.uptoBulk where
 str b:=by simp[Rows.uptoBulk]
 slice e s:=by simp only[Rows.uptoBulk,bulkAll];omega
 agg p:=by simp only[Rows.uptoBulk,bulkAll];omega
 one d:=by
  cases d with
  | lit l=>cases l<;>simp[Rows.uptoBulk]
  | _=>simp[Rows.uptoBulk]
theorem small {H:Type}{l:List (DataW H)}(h:Rows.uptoSmall H l=true):(l.map Rows.uptoBulk).sum<=1048576:=by
 have h:Rows.uptoBulkAll l<=1048576:=of_decide_eq_true h;rwa [bulkAll]at h
end Go.Proofs.YtdgcepphjnoalaaGreat
