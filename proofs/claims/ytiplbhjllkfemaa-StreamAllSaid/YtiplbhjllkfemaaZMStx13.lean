/-
  The printed texts of the stream laws, together.
-/
import Derived.Test.YtiplbhjllkfemaaZMStx4
import Derived.Test.YtiplbhjllkfemaaZMStx9
import Derived.Test.YtiplbhjllkfemaaZMStx12
