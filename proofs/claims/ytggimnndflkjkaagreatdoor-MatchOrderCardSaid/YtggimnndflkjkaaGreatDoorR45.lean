import Derived.Test.YtggimnndflkjkaaGreatDoorR01
import Derived.Test.YtggimnndflkjkaaGreatDoorR41
import Derived.Test.YtggimnndflkjkaaGreatDoorR43
import Derived.Test.YtggimnndflkjkaaGreatDoorR44
import Derived.OpenShut
set_option linter.all false
set_option maxRecDepth 100000
set_option maxHeartbeats 0
namespace Go.Proofs.YtggimnndflkjkaaGreatDoor
section
open Go.RowKit Go.Maps
structure zua (s : zi) (p : zh) : Prop where
 fine : zpG (zb s) p
 small : zH (zm (zX (zb s) p))
 point : zaX (zb s) p.id = (p,true)
 few : (zb s).points.length <= 64
theorem znB (s : zi) (p : zh) (h : p ∈ (zb s).points) : zua s p where
 fine:=by
  obtain ⟨-,-,h3,h4,h5,h6,-,-⟩:=(zbl s).p p h;exact ⟨((zbl s).t p.town).1,((zbl s).s p.street).1,h5,h6,h3,h4⟩
 small:=(zeL s p h).2
 point:=zhR s p h
 few:=by have:=zew s (zaN s); have : (zb s).points.length = (zba s (zaN s)).length:=rfl; unfold zaN at *; omega
end
end Go.Proofs.YtggimnndflkjkaaGreatDoor
